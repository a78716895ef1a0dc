/-
  law06: NodeLooks: walk.
-/
import Derived.Test.YtpefeefmdlfafaaNod11
import Derived.Test.YtpefeefmdlfafaaBase19
namespace Go.Proofs.Ytpefeefmdlfafaa
open Go Go.RowKit Go.Cx
set_option linter.unusedVariables false
set_option maxHeartbeats 8000000
set_option maxRecDepth 20000
theorem sh_parts {w : World} {s : Sh} {c : List Value} (h : ShAt w s c) : ∃ ev kv lc, c = [ev, kv] ∧ SlK w 2 kv s.kids.length lc ∧ EAt w s.es ev ∧ s.es.length ≤ 1353245080300 := by
  cases h with
  | mk he hn h1 h2 hs hk => exact ⟨_, _, _, rfl, hs, he, hn⟩
theorem e_single {w : World} {r : Value} {k : List UInt8} {v : V} {c : List Value} (h : SlK w 7 r 1 (strv k :: c)) (hv : VAt w v c) : EAt w [(k, v)] r := by
  refine ⟨[⟨c, hv.len⟩], rfl, ?_, fun j h h' => ?_⟩
  · show SlK w 7 r 1 (strv k :: c ++ [])
    rw [List.append_nil]; exact h
  · have : j = 0 := by simp at h; omega
    subst this
    exact hv
theorem slice_ent {w : World} {v : Value} {l : List En} {lc : List VC} {n : Nat} {i j : Int} (hi : i = (n : Int)) (hj : j = (n : Int) + 1) (h : n < l.length) (h' : n < lc.length) (hs : SlK w 7 v (j.toNat - i.toNat) ((((ents l lc).flatMap mc).drop (i.toNat * 7)).take ((j.toNat - i.toNat) * 7))) : SlK w 7 v 1 (strv l[n].1 :: lc[n].c) := by
  subst hi hj
  have e : ((n : Int) + 1).toNat - (n : Int).toNat = 1 := by omega
  have hz2 : n < (ents l lc).length := by unfold ents; rw [List.length_zip, List.length_map]; omega
  rw [e, Int.toNat_natCast, Nat.one_mul, flat_at mc_len _ n hz2, ents_get h h' hz2] at hs
  exact hs
theorem nkids_nd {w : World} {M : Nat → Prop} {s : Sh} {b : Nat} (h : NdR w M s b) : Ret Try.prog 21 [ptr b].toArray w fun r w' => (∃ cs, SlK w' 1 r s.kids.length cs) ∧ Below w.heap.size w w' := by
  have hok := okS_len h.ok
  cases h with
  | mk hB hm he h1 hkv hs h2 ok => exact (nkids_ret (M := M) hB hs (by omega)).mono fun r w' ⟨⟨bl', _, h⟩, hb⟩ => ⟨⟨_, h.sl⟩, hb⟩
theorem flat_es {s : Sh} (h : OkS s) (h0 : 0 < s.es.length) : s.kids.length = 0 := by
  cases h with
  | leaf h1 h2 => rfl
  | inner h1 h2 => exact absurd h0 (by simp [Sh.es])
theorem nodeLooks_in (w : World) (s : Sh) (c : List Value) (hs : ShAt w s c) (i : Int) (hi : (Lit.int .i64 i).wf = true) (hsm : smallS 10 s) (hok : OkS s) (hin : 0 ≤ i ∧ i < s.es.length) : Ret Try.prog 8 [.agg c.toArray, .int .i64 i].toArray w fun v w' => v = .bool true ∧ Below w.heap.size w w' := by
  have hcl := hs.len
  have hmay := ok_may (s := s)
  have hir : -9223372036854775808 ≤ i ∧ i ≤ 9223372036854775807 := int_range hi
  have hqq := sh_parts hs
  obtain ⟨ev, kv, lc, rfl, hks, hE, hn⟩ := hqq
  have hqq := id hE
  obtain ⟨oc, o1, hes, o3⟩ := hqq
  refine Ret.of (n := 171) (rs := #[.tmp 4]) Try.func8 rfl rfl rfl (by simp) ?_
  refine WC.seqR rfl ?_
  refine WL.eex rfl (E.boxX) ?_
  rintro _ w2 ⟨rfl, hB2, hb2⟩
  refine WL.y rfl (Y.assign) ?_
  refine WL.nil ?_
  refine WC.seq ?_
  have hB : Blk w2 w.heap.size 25 [ev, kv] := hB2
  clear hB2
  have s2 := hb2.size
  have lB := hB.lt
  have hnn := small_nodes hsm
  have hff := small_flat 10 s hsm
  have hhl := hS_lt s
  have hol := okS_len hok
  refine WC.seqR rfl ?_
  refine WL.y rfl (Y.loadK Try.underlying25 rfl ti25 (rfl) rfl (hB.cells)) ?_
  refine WL.call rfl (C.func go9) (smallT (d := 10) (by omega) (hs.bel hb2) hsm) ?_
  rintro _ w14 ⟨rfl, hb14⟩
  have k14 := Below.step hb2 hb14
  refine WL.y rfl (Y.not rfl) ?_
  refine WL.y rfl (Y.move) ?_
  refine WL.y rfl (Y.loadK Try.underlying25 rfl ti25 (rfl) rfl ((hB.bel hb14).cells)) ?_
  refine WL.call rfl (C.func go10) (rmayT (rmay_ret s) (hmay.1 hok) _ _ _ (hs.bel k14) (Below.refl _ _) (by omega) (by omega)) ?_
  rintro _ w18 ⟨rfl, hb18⟩
  have k18 := Below.step k14 hb18
  refine WL.y rfl (Y.not rfl) ?_
  refine WL.y rfl (Y.pickF rfl) ?_
  refine WL.nil ?_
  refine WC.condF (rfl) ?_
  refine WC.skip (thenQ.normal ?_)
  refine WC.seqR rfl ?_
  refine WL.y rfl (Y.loadK Try.underlying25 rfl ti25 (rfl) rfl (((hB.bel hb14).bel hb18).cells)) ?_
  refine WL.call rfl (C.func go12) (ofT _ _ (hs.bel k18) (by omega) (by omega) hok) ?_
  rintro _ w24 ⟨⟨b, rfl, n24⟩, hb24⟩
  have k24 := Below.step k18 hb24
  refine WL.y rfl (Y.move) ?_
  refine WL.y rfl (Y.extract rfl rfl) ?_
  refine WL.y rfl (Y.extract rfl rfl) ?_
  refine WL.y rfl (Y.assign) ?_
  refine WL.y rfl (Y.assign) ?_
  refine WL.nil ?_
  refine WC.seqR rfl ?_
  refine WL.y rfl (Y.loadK Try.underlying25 rfl ti25 (rfl) rfl ((((hB.bel hb14).bel hb18).bel hb24).cells)) ?_
  refine WL.call rfl (C.func go27) (rflat_ret s _ w _ hs k24 (by omega)) ?_
  rintro r28 w28 ⟨⟨lk, e1, e2, e3⟩, hb28⟩
  have k28 := Below.step k24 hb28
  refine WL.y rfl (Y.assign) ?_
  refine WL.nil ?_
  refine WC.seqR rfl ?_
  refine WL.y rfl (Y.assign) ?_
  refine WL.y rfl (Y.assign) ?_
  refine WL.nil ?_
  refine WC.seq ?_
  refine WC.seqR rfl ?_
  refine WL.y rfl (Y.move) ?_
  refine WL.y rfl (Y.lenSl Try.underlying22 (e2) _) ?_
  refine WL.y rfl (Y.gtr rfl rfl) ?_
  refine WL.nil ?_
  have hB24 := ((hB.bel hb14).bel hb18).bel hb24
  have n24' := n24.mono (M' := fun _ => True) (fun _ _ _ => trivial)
  have hs24 := hs.bel k24
  have hE24 := hE.bel k24
  have hes24 := hes.bel k24
  have hks24 := hks.bel k24
  have s24 := k24.size
  have s28 := hb28.size
  refine WC.cut (fun f ds w' => ds = [] ∧ Below w28.heap.size w28 w' ∧ ∃ J, f = Go.Cx.ov J [(1, .int .i64 i), (2, .pointer (some ⟨w.heap.size, 0, none⟩)), (5, ptr b), (6, .int .i64 0), (7, r28), (8, strv (firstS (flatS s))), (9, strv (lastS (flatS s)))]) ?_ ?_
  · skip
    refine WC.condD rfl (fun c0 => ?_) (fun c0 => ?_)
    · have hl0 : 0 < (flatS s).length := by omega
      have hl1 : (flatS s).length - 1 < (flatS s).length := by omega
      have hc0 : 0 < lk.length := by omega
      have hc1 : (flatS s).length - 1 < lk.length := by omega
      have z1 := firstS_get hl0
      have z2 := lastS_get hl0
      refine WC.regionB (fun _ => false) [(0, .any), (1, .any), (2, .any), (3, .held), (4, .any), (5, .any), (6, .any), (7, .any), (8, .any), (9, .any), (10, .held), (11, .any), (12, .any)] mixed (by kernel_rfl) (fun w7x hS7 hheap => ?_)
      refine RL.any rfl rfl (fun _ => Y.move) ?_
      refine RL.yex rfl rfl (Y.idx Try.underlying22 ti42 (by decide) (e2) rfl (by omega) (by omega)) ?_
      rintro _ ⟨b33, o33, rfl, hc33⟩
      refine RL.any rfl rfl (fun _ => Y.fieldAddr fi42f0 ti9 (by decide) rfl (rfl) _) ?_
      refine RL.held rfl rfl hS7 (fun _ hb9 => Y.load1 Try.underlying9 rfl rfl (cell_bel (Cells.hd (elem_ent hl0 hc0 (by omega) hc33)) hb9)) ?_
      refine RL.any rfl rfl (fun _ => Y.move) ?_
      refine RL.any rfl rfl (fun _ => Y.move) ?_
      refine RL.any rfl rfl (fun _ => Y.lenSl Try.underlying22 (e2) _) ?_
      refine RL.any rfl rfl (fun _ => Y.sub64 rfl rfl (by omega)) ?_
      refine RL.yex rfl rfl (Y.idx Try.underlying22 ti42 (by decide) (e2) rfl (by omega) (by omega)) ?_
      rintro _ ⟨b40, o40, rfl, hc40⟩
      refine RL.any rfl rfl (fun _ => Y.fieldAddr fi42f0 ti9 (by decide) rfl (rfl) _) ?_
      refine RL.held rfl rfl hS7 (fun _ hb9 => Y.load1 Try.underlying9 rfl rfl (cell_bel (Cells.hd (elem_ent hl1 hc1 (by omega) hc40)) hb9)) ?_
      refine RL.any rfl rfl (fun _ => Y.assign) ?_
      refine RL.any rfl rfl (fun _ => Y.assign) ?_
      refine RL.nil (thenQ.normal ?_)
      exact ⟨rfl, hS7, _, ov_mk ⟨rfl, rfl, rfl, rfl, rfl, by rw [z1]; rfl, by rw [z2]; rfl, trivial⟩⟩
    · have e0 : flatS s = [] := List.eq_nil_of_length_eq_zero (by omega)
      refine WC.skip (thenQ.normal ?_)
      exact ⟨rfl, Below.refl _ _, _, ov_mk ⟨rfl, rfl, rfl, rfl, rfl, by rw [e0]; rfl, by rw [e0]; rfl, trivial⟩⟩
  · clear hB
    rintro _ _ wC ⟨rfl, kC, J, rfl⟩
    have q0 : Below w24.heap.size w24 wC := Below.step hb28 kC
    have sC := q0.size
    have e2C := e2.bel kC
    have hBC := hB24.bel q0
    have n24 := n24'
    have hqq := Int.eq_ofNat_of_zero_le hin.1
    obtain ⟨n, rfl⟩ := hqq
    have hn1 : n < s.es.length := by omega
    have hno : n < oc.length := by omega
    have hk0 := flat_es hok (by omega)
    refine WC.seqR rfl ?_
    refine WL.y rfl (Y.move) ?_
    refine WL.y rfl (Y.move) ?_
    refine WL.call rfl (C.func go18) (nentry_in (n24.bel q0) n hn1) ?_
    rintro _ w46 ⟨c46, rfl, h46, hb46⟩
    have hqq := six h46.len
    obtain ⟨p0, p1, p2, p3, p4, p5, rfl⟩ := hqq
    refine WL.y rfl (Y.move) ?_
    refine WL.y rfl (Y.extract rfl rfl) ?_
    refine WL.y rfl (Y.extract rfl rfl) ?_
    refine WL.eex rfl (E.allocX ti42) ?_
    rintro _ w10 ⟨rfl, hB10, hb10⟩
    refine WL.eex rfl (E.storeAllK (us := strv s.es[n].1 :: [p0, p1, p2, p3, p4, p5]) ti42 rfl rfl rfl (one_strv h46.one) hB10 rfl) ?_
    rintro _ w10s ⟨hB10', hg10⟩
    refine WL.y rfl (Y.assign) ?_
    refine WL.nil ?_
    have l10 := (show Blk w10 _ _ _ from hB10).lt
    have s46 := hb46.size
    have s10 := hb10.size
    have t10 := hg10.size
    have qR : Below w24.heap.size w24 w10s := Below.stepG (Below.step (Below.step q0 hb46) hb10) hg10 (by omega)
    have hBR := ((hBC.bel hb46).bel hb10).grown hg10 (by have := hB24.lt; omega)
    have e2R := e2C.bel (show Below wC.heap.size wC w10s from Below.stepG (Below.step hb46 hb10) hg10 (by omega))
    have hesR := hes24.bel qR
    have hksR := hks24.bel qR
    have h46' := (VW.kept (M' := fun b => b = w46.heap.size) (Kept.of_grown hg10 rfl) (fun b h1 h2 => by omega) ((h46.mono (M' := fun b => wC.heap.size ≤ b ∧ b < w46.heap.size) (fun b h1 h2 => ⟨h2, h1⟩)).bel hb10)).at
    clear hB10
    refine WC.seqR rfl ?_
    refine WL.y rfl (Y.move) ?_
    refine WL.y rfl (Y.dT (Y.geq rfl rfl) (by omega)) ?_
    refine WL.y rfl (Y.move) ?_
    refine WL.y rfl (Y.move) ?_
    refine WL.y rfl (Y.fieldAddr fi25f0 ti22 (by decide) rfl (rfl) _) ?_
    refine WL.y rfl (Y.load1 Try.underlying22 rfl rfl (hBR.cell 0)) ?_
    refine WL.y rfl (Y.lenSl Try.underlying22 (hesR) _) ?_
    refine WL.y rfl (Y.dT (Y.lss rfl rfl) (by omega)) ?_
    refine WL.y rfl (Y.pickT rfl) ?_
    refine WL.y rfl (Y.move) ?_
    refine WL.y rfl (Y.fieldAddr fi25f1 ti23 (by decide) rfl (rfl) _) ?_
    refine WL.y rfl (Y.load1 Try.underlying23 rfl rfl (hBR.cell 1)) ?_
    refine WL.y rfl (Y.lenSl Try.underlying23 (hksR) _) ?_
    refine WL.y rfl (Y.dT (Y.eqi rfl rfl) (by omega)) ?_
    refine WL.y rfl (Y.pickT rfl) ?_
    refine WL.y rfl (Y.assign) ?_
    refine WL.nil ?_
    refine WC.seq ?_
    refine WC.seq ?_
    refine WC.regionB (fun _ => false) [(0, .any), (1, .any), (2, .any), (3, .any), (4, .any), (5, .any), (6, .held), (8, .any), (9, .held), (10, .any), (11, .any), (12, .any), (13, .any), (7, .seq), (14, .seq), (15, .any), (16, .any), (17, .any), (18, .any), (19, .any), (20, .any), (21, .any), (22, .any), (23, .held), (24, .any), (25, .any), (26, .any)] mixed (by kernel_rfl) (fun w10y hS10 hheap => ?_)
    refine RL.any rfl rfl (fun _ => Y.move) ?_
    refine RL.any rfl rfl (fun _ => Y.move) ?_
    refine RL.any rfl rfl (fun _ => Y.bF (Y.neb Try.underlying4 rfl rfl) (rfl)) ?_
    refine RL.any rfl rfl (fun _ => Y.move) ?_
    refine RL.any rfl rfl (fun _ => Y.move) ?_
    refine RL.any rfl rfl (fun _ => Y.move) ?_
    refine RL.held rfl rfl hS10 (fun _ hb9 => Y.loadK Try.underlying42 rfl ti42 (rfl) rfl (Cells.bel hB10'.cells hb9)) ?_
    refine RL.any rfl rfl (fun _ => Y.fieldAddr fi25f0 ti22 (by decide) rfl (rfl) _) ?_
    refine RL.held rfl rfl hS10 (fun _ hb9 => Y.load1 Try.underlying22 rfl rfl (cell_bel (hBR.cell 0) hb9)) ?_
    refine RL.any rfl rfl (fun _ => Y.move) ?_
    refine RL.any rfl rfl (fun _ => Y.move) ?_
    refine RL.any rfl rfl (fun _ => Y.add64 rfl rfl (by omega)) ?_
    refine RL.yex rfl rfl (Y.slice (ol := some _) (oh := some _) Try.underlying22 ti42 hesR rfl rfl (by omega) (by omega) (by omega)) ?_
    rintro v77 hs77
    refine RL.eex rfl rfl (E.build1A (c := strv s.es[n].1 :: [p0, p1, p2, p3, p4, p5]) Try.underlying22 ti42 rfl (by decide) (by decide) rfl) ?_ ?_
    · exact fun _ _ h9 => .inr (fun h => Below.step h h9.2.2.1)
    rintro _ w71 ⟨rfl, ho71, hb71, -⟩ 
    refine RL.call rfl rfl (C.func go28) (sameE_ret [s.es[n]] _ _ _ (e_single (ownsRow_sl ho71) ((h46'.bel hS10).bel hb71)) (e_single ((slice_ent rfl rfl hn1 hno hs77).bel (Below.step hS10 hb71)) ((o3 n hn1 hno).bel (Below.step k24 (Below.step (Below.step qR hS10) hb71)))) (by simp)) ?_
    rintro _ w78 ⟨rfl, hb78⟩
    refine ⟨.inr (fun h => Below.step h hb78), ?_⟩
    refine RL.any rfl rfl (fun _ => Y.not rfl) ?_
    refine RL.any rfl rfl (fun _ => Y.pickT rfl) ?_
    refine RL.any rfl rfl (fun _ => Y.pickF rfl) ?_
    refine RL.any rfl rfl (fun _ => Y.move) ?_
    refine RL.any rfl rfl (fun _ => Y.move) ?_
    refine RL.any rfl rfl (fun _ => Y.not rfl) ?_
    refine RL.any rfl rfl (fun _ => Y.move) ?_
    refine RL.off rfl rfl ?_
    refine RL.offH rfl rfl (Below.step (Below.step hS10 hb71) hb78) ?_
    refine RL.off rfl rfl ?_
    refine RL.any rfl rfl (fun _ => Y.pickF rfl) ?_
    refine RL.any rfl rfl (fun _ => Y.pickF rfl) ?_
    refine RL.nil (thenQ.normal ?_)
    refine WC.condF (rfl) ?_
    refine WC.skip (thenQ.normal ?_)
    refine WC.seq ?_
    have q10 := Below.step (Below.step (Below.step qR hS10) hb71) hb78
    have b10 : Below w10s.heap.size w10s w78 := Below.step (Below.step hS10 hb71) hb78
    have qR := q10
    have hBR := hBR.bel b10
    have e2R := e2R.bel b10
    have hesR := hesR.bel b10
    have hksR := hksR.bel b10
    refine WC.regionN [(0, 2475880078570760549798248448, 64), (1, 4951760157141521099596496896, 2475880078570760549798248448), (2, 9903520314283042199192993792, 4951760157141521099596496896), (4, 19807040628566084398385987584, 9903520314283042199192993824), (12, 39614081257132168796771975168, 29710560942849126597578981376), (4, 79228162514264337593543950336, 9903520314283042199192993796), (52, 158456325028528675187087900672, 89131682828547379792736944128), (84, 316912650057057350374175801344, 207973926599943886183052869632), (132, 633825300114114700748351602688, 326816170371340392573368795136), (320, 1267650600228229401496703205376, 633825300114114700748351602688), (512, 2535301200456458802993406410752, 1267650600228229401496703205408), (1536, 5070602400912917605986812821504, 3802951800684688204490109616128), (512, 10141204801825835211973625643008, 1267650600228229401496703205504), (4608, 20282409603651670423947251286016, 11408855402054064613470328848384), (10752, 40564819207303340847894502572032, 26620662604792817431430767312896), (16896, 81129638414606681695789005144064, 41832469807531570249391205777408), (34816, 162259276829213363391578010288128, 81129638414606681695789005144064), (65536, 324518553658426726783156020576256, 162259276829213363391578010288160), (196608, 649037107316853453566312041152512, 486777830487640090174734030864384), (65536, 1298074214633706907132624082305024, 162259276829213363391578010288132), (589824, 2596148429267413814265248164610048, 1460333491462920270524202092593152), (1114112, 5192296858534827628530496329220096, 2758407706096627177656826174898176), (65536, 10384593717069655257060992658440192, 162259276829213363391578010288132), (4259840, 20769187434139310514121985316880384, 10546852993898868620452570668728320), (8454144, 41538374868278621028243970633760768, 20931446710968523877513563327168512), (18939904, 83076749736557242056487941267521536, 46892931003642662020166044973268992), (33882112, 166153499473114484112975882535043072, 83888046120703308873445831318962176), (67174400, 332306998946228968225951765070086144, 166315758749943697476367460545331200), (134479872, 664613997892457936451903530140172288, 332306998946228968225951765070086144), (268435456, 1329227995784915872903807060280344576, 664613997892457936451903530140172320), (805306368, 2658455991569831745807614120560689152, 1993841993677373809355710590420516864), (268435456, 5316911983139663491615228241121378304, 664613997892457936451903530140172544), (3489660928, 10633823966279326983230456482242756608, 8639981972601953173874745891822239744), (4563402752, 21267647932558653966460912964485513216, 11298437964171784919682360012382928896), (9663676416, 42535295865117307932921825928971026432, 21267647932558653966460912964485513216), (17179869184, 85070591730234615865843651857942052864, 42535295865117307932921825928971026464), (51539607552, 170141183460469231731687303715884105728, 127605887595351923798765477786913079296), (17179869184, 340282366920938463463374607431768211456, 42535295865117307932921825928971026944), (223338299392, 680564733841876926926749214863536422912, 552958846246525003127983737076623343616), (292057776128, 1361129467683753853853498429727072845824, 723100029706994234859671040792507449344), (618475290624, 2722258935367507707706996859454145691648, 1361129467683753853853498429727072845824), (1099511627776, 5444517870735015415413993718908291383296, 2722258935367507707706996859454145691680), (3298534883328, 10889035741470030830827987437816582766592, 8166776806102523123120990578362437074944), (1099511627776, 21778071482940061661655974875633165533184, 2722258935367507707706996859454145691652), (9895604649984, 43556142965880123323311949751266331066368, 24500330418307569369362971735087311224832), (23089744183296, 87112285931760246646623899502532662132736, 57167437642717661861846934048537059524608), (36283883716608, 174224571863520493293247799005065324265472, 89834544867127754354330896361986807824384), (105553116266496, 348449143727040986586495598010130648530944, 174224571863520493293247799005065324265472), (140737488355328, 696898287454081973172991196020261297061888, 348449143727040986586495598010130648530976), (422212465065984, 1393796574908163946345982392040522594123776, 1045347431181122959759486794030391945592832), (703687441776640, 2787593149816327892691964784081045188247552, 1742245718635204932932477990050653242654720), (140737488355328, 5575186299632655785383929568162090376495104, 348449143727040986586495598010130648530948), (2392537302040576, 11150372599265311570767859136324180752990208, 5923635443359696771970425166172221025026048), (4644337115725824, 22300745198530623141535718272648361505980416, 11498821742992352557354354734334311401521152), (10273836649938944, 44601490397061246283071436545296723011960832, 25436787492073992020814178654739537342758912), (18155135997837312, 89202980794122492566142873090593446023921664, 44949939540788287269657932143306853660491776), (36591746972385280, 178405961588244985132285746181186892047843328, 89202980794122492566142873090593446023921664), (72057594037927936, 356811923176489970264571492362373784095686656, 178405961588244985132285746181186892047843360), (216172782113783808, 713623846352979940529142984724747568191373312, 535217884764734955396857238543560676143529984), (72057594037927936, 1427247692705959881058285969449495136382746624, 178405961588244985132285746181186892047843332), (936748722493063168, 2854495385411919762116571938898990272765493248, 1605653654294204866190571715630682028430589952), (1513209474796486656, 5708990770823839524233143877797980545530986496, 3746525193353144687778000669804924733004709888), (2377900603251621888, 11417981541647679048466287755595961091061972992, 5887396732412084509365429623979167437578829824), (5764607523034234880, 22835963083295358096932575511191922182123945984, 11417981541647679048466287755595961091061972992), (9223372036854775808, 45671926166590716193865151022383844364247891968, 22835963083295358096932575511191922182123946016), (27670116110564327424, 91343852333181432387730302044767688728495783936, 68507889249886074290797726533575766546371837952), (9223372036854775808, 182687704666362864775460604089535377456991567872, 22835963083295358096932575511191922182123945988), (119903836479112085504, 365375409332725729550921208179070754913983135744, 205523667749658222872393179600727299639115513856), (193690812773950291968, 730750818665451459101842416358141509827966271488, 479555224749202520035584085735030365824602865664), (304371277216207601664, 1461501637330902918203684832716283019655932542976, 753586781748746817198774991869333432010090217472), (737869762948382064640, 2923003274661805836407369665432566039311865085952, 1461501637330902918203684832716283019655932542976), (1180591620717411303424, 5846006549323611672814739330865132078623730171904, 2923003274661805836407369665432566039311865085984), (3541774862152233910272, 11692013098647223345629478661730264157247460343808, 8769009823985417509222108996297698117935595257856), (1180591620717411303424, 23384026197294446691258957323460528314494920687616, 2923003274661805836407369665432566039311865085956), (15347691069326346944512, 46768052394588893382517914646921056628989841375232, 26307029471956252527666326988893094353806785773568), (24792424035065637371904, 93536104789177786765035829293842113257979682750464, 61383068767897922564554762974083886825549166804992), (38959523483674573012992, 187072209578355573530071658587684226515959365500928, 96459108063839592601443198959274679297291547836416), (94447329657392904273920, 374144419156711147060143317175368453031918731001856, 187072209578355573530071658587684226515959365500928), (151115727451828646838272, 748288838313422294120286634350736906063837462003712, 374144419156711147060143317175368453031918731001856), (453347182355485940514816, 1496577676626844588240573268701473812127674924007424, 1122433257470133441180429951526105359095756193005568), (1208925819614629174706175, 16, 1496577676626844588240573268701473812127674924007424)] [1, 3, 7, 15, 47, 63, 127, 255, 511, 1023, 2047, 6143, 14335, 16383, 32767, 65535, 131071, 262143, 786431, 1835007, 3932159, 8126463, 16515071, 33292287, 66846719, 67108863, 134217727, 268435455, 536870911, 1073741823, 3221225471, 4294967295, 8589934591, 17179869183, 34359738367, 68719476735, 206158430207, 274877906943, 549755813887, 1099511627775, 2199023255551, 4398046511103, 13194139533311, 30786325577727, 35184372088831, 70368744177663, 140737488355327, 281474976710655, 562949953421311, 2814749767106559, 7318349394477055, 16325548649218047, 16888498602639359, 18014398509481983, 36028797018963967, 72057594037927935, 144115188075855871, 288230376151711743, 864691128455135231, 1152921504606846975, 2305843009213693951, 4611686018427387903, 9223372036854775807, 18446744073709551615, 36893488147419103231, 110680464442257309695, 147573952589676412927, 295147905179352825855, 590295810358705651711, 1180591620717411303423, 2361183241434822606847, 4722366482869645213695, 14167099448608935641087, 18889465931478580854783, 37778931862957161709567, 75557863725914323419135, 151115727451828646838271, 302231454903657293676543, 604462909807314587353087, 1208925819614629174706175, 2417851639229258349412351] [(0, .any), (1, .any), (2, .any), (3, .any), (5, .held), (4, .seq), (6, .seq), (7, .any), (8, .any), (9, .any), (10, .any), (12, .any), (13, .any), (11, .seq), (14, .any), (15, .any), (16, .any), (17, .any), (19, .any), (20, .held), (21, .any), (22, .any), (23, .held), (24, .any), (25, .any), (18, .seq), (26, .any), (27, .any), (28, .any), (29, .any), (31, .any), (30, .seq), (32, .any), (33, .any), (34, .any), (35, .any), (37, .any), (36, .seq), (38, .any), (39, .any), (40, .any), (41, .any), (43, .any), (44, .held), (42, .seq), (45, .seq), (46, .any), (47, .any), (48, .any), (51, .any), (52, .held), (53, .any), (49, .seq), (50, .any), (54, .any), (55, .any), (56, .any), (57, .any), (59, .held), (58, .seq), (60, .seq), (61, .any), (62, .any), (63, .any), (64, .any), (66, .held), (65, .seq), (67, .seq), (68, .any), (69, .any), (70, .any), (71, .any), (73, .held), (72, .seq), (74, .seq), (75, .any), (76, .any), (77, .any), (78, .seq), (79, .any), (80, .any)] mixed (by kernel_rfl) (by kernel_rfl) (by kernel_rfl) (fun w12 hS12 hheap => ?_)
    refine RL.any rfl rfl (fun _ => Y.move) ?_
    refine RL.any rfl rfl (fun _ => Y.dT (Y.eqi rfl rfl) (rfl)) ?_
    refine RL.any rfl rfl (fun _ => Y.move) ?_
    refine RL.any rfl rfl (fun _ => Y.move) ?_
    refine RL.held rfl rfl hS12 (fun _ hb9 => Y.loadK Try.underlying25 rfl ti25 (rfl) rfl (Cells.bel hBR.cells hb9)) ?_
    refine RL.call rfl rfl (C.func go13) (nheight_ret (n24.bel (Below.step qR hS12))) ?_
    rintro _ _ ⟨rfl, rfl⟩
    refine ⟨.inr id, ?_⟩
    refine RL.call rfl rfl (C.func go29) (rheight_ret s _ _ (hs24.bel (Below.step qR hS12)) (by omega)) ?_
    rintro _ w97 ⟨rfl, hb97⟩
    refine ⟨.inr (fun h => Below.step h hb97), ?_⟩
    have q97 := Below.step (Below.step qR hS12) hb97
    refine RL.any rfl rfl (fun _ => Y.dT (Y.eqi rfl rfl) (rfl)) ?_
    refine RL.any rfl rfl (fun _ => Y.pickT rfl) ?_
    refine RL.any rfl rfl (fun _ => Y.move) ?_
    refine RL.any rfl rfl (fun _ => Y.move) ?_
    refine RL.any rfl rfl (fun _ => Y.move) ?_
    refine RL.any rfl rfl (fun _ => Y.lenSl Try.underlying22 (e2R) _) ?_
    refine RL.call rfl rfl (C.func go15) (ncount_ret (n24.bel q97)) ?_
    rintro _ _ ⟨rfl, rfl⟩
    refine ⟨.inr id, ?_⟩
    refine RL.any rfl rfl (fun _ => Y.dT (Y.eqi rfl rfl) (rfl)) ?_
    refine RL.any rfl rfl (fun _ => Y.pickT rfl) ?_
    refine RL.any rfl rfl (fun _ => Y.move) ?_
    refine RL.any rfl rfl (fun _ => Y.move) ?_
    refine RL.any rfl rfl (fun _ => Y.fieldAddr fi25f0 ti22 (by decide) rfl (rfl) _) ?_
    refine RL.held rfl rfl (Below.step hS12 hb97) (fun _ hb9 => Y.load1 Try.underlying22 rfl rfl (cell_bel (hBR.cell 0) hb9)) ?_
    refine RL.any rfl rfl (fun _ => Y.lenSl Try.underlying22 (hesR) _) ?_
    refine RL.any rfl rfl (fun _ => Y.fieldAddr fi25f1 ti23 (by decide) rfl (rfl) _) ?_
    refine RL.held rfl rfl (Below.step hS12 hb97) (fun _ hb9 => Y.load1 Try.underlying23 rfl rfl (cell_bel (hBR.cell 1) hb9)) ?_
    refine RL.any rfl rfl (fun _ => Y.lenSl Try.underlying23 (hksR) _) ?_
    refine RL.any rfl rfl (fun _ => Y.add64 rfl rfl (by omega)) ?_
    refine RL.call rfl rfl (C.func go23) (nsize_ret (n24.bel q97)) ?_
    rintro _ w109 ⟨rfl, hb109⟩
    refine ⟨.inr (fun h => Below.step h hb109), ?_⟩
    have q109 := Below.step q97 hb109
    refine RL.any rfl rfl (fun _ => Y.dT (Y.eqi rfl rfl) (rfl)) ?_
    refine RL.any rfl rfl (fun _ => Y.pickT rfl) ?_
    refine RL.any rfl rfl (fun _ => Y.move) ?_
    refine RL.any rfl rfl (fun _ => Y.move) ?_
    refine RL.any rfl rfl (fun _ => Y.move) ?_
    refine RL.call rfl rfl (C.func go25) (nfirst_ret (n24.bel q109)) ?_
    rintro _ _ ⟨rfl, rfl⟩
    refine ⟨.inr id, ?_⟩
    refine RL.any rfl rfl (fun _ => Y.bT (Y.eqS rfl rfl) (decide_eq_true rfl)) ?_
    refine RL.any rfl rfl (fun _ => Y.pickT rfl) ?_
    refine RL.any rfl rfl (fun _ => Y.move) ?_
    refine RL.any rfl rfl (fun _ => Y.move) ?_
    refine RL.any rfl rfl (fun _ => Y.move) ?_
    refine RL.call rfl rfl (C.func go26) (nlast_ret (n24.bel q109)) ?_
    rintro _ _ ⟨rfl, rfl⟩
    refine ⟨.inr id, ?_⟩
    refine RL.any rfl rfl (fun _ => Y.bT (Y.eqS rfl rfl) (decide_eq_true rfl)) ?_
    refine RL.any rfl rfl (fun _ => Y.pickT rfl) ?_
    refine RL.any rfl rfl (fun _ => Y.move) ?_
    refine RL.any rfl rfl (fun _ => Y.move) ?_
    refine RL.any rfl rfl (fun _ => Y.fieldAddr fi25f0 ti22 (by decide) rfl (rfl) _) ?_
    refine RL.held rfl rfl (Below.step (Below.step hS12 hb97) hb109) (fun _ hb9 => Y.load1 Try.underlying22 rfl rfl (cell_bel (hBR.cell 0) hb9)) ?_
    refine RL.call rfl rfl (C.func go17) (nentries_ret (n24.bel q109)) ?_
    rintro v133 w133 ⟨h133, hb133⟩
    refine ⟨.inr (fun h => Below.step h hb133), ?_⟩
    have q133 := Below.step q109 hb133
    refine RL.call rfl rfl (C.func go28) (sameE_ret s.es _ _ _ h133.at (hE24.bel q133) hn) ?_
    rintro _ w136 ⟨rfl, hb136⟩
    refine ⟨.inr (fun h => Below.step h hb136), ?_⟩
    have q136 := Below.step q133 hb136
    refine RL.any rfl rfl (fun _ => Y.pickT rfl) ?_
    refine RL.any rfl rfl (fun _ => Y.move) ?_
    refine RL.any rfl rfl (fun _ => Y.move) ?_
    refine RL.any rfl rfl (fun _ => Y.fieldAddr fi25f1 ti23 (by decide) rfl (rfl) _) ?_
    refine RL.held rfl rfl (Below.step (Below.step (Below.step (Below.step hS12 hb97) hb109) hb133) hb136) (fun _ hb9 => Y.load1 Try.underlying23 rfl rfl (cell_bel (hBR.cell 1) hb9)) ?_
    refine RL.any rfl rfl (fun _ => Y.lenSl Try.underlying23 (hksR) _) ?_
    refine RL.call rfl rfl (C.func go21) (nkids_nd (n24.bel q136)) ?_
    rintro v140 w140 ⟨⟨cs140, h140⟩, hb140⟩
    refine ⟨.inr (fun h => Below.step h hb140), ?_⟩
    have q140 := Below.step q136 hb140
    refine RL.any rfl rfl (fun _ => Y.lenSl Try.underlying49 (h140) _) ?_
    refine RL.any rfl rfl (fun _ => Y.dT (Y.eqi rfl rfl) (rfl)) ?_
    refine RL.any rfl rfl (fun _ => Y.pickT rfl) ?_
    refine RL.any rfl rfl (fun _ => Y.move) ?_
    refine RL.any rfl rfl (fun _ => Y.move) ?_
    refine RL.held rfl rfl (Below.step (Below.step (Below.step (Below.step (Below.step hS12 hb97) hb109) hb133) hb136) hb140) (fun _ hb9 => Y.loadK Try.underlying25 rfl ti25 (rfl) rfl (Cells.bel hBR.cells hb9)) ?_
    refine RL.call rfl rfl (C.func go14) (nsound_ret (n24.bel q140) true) ?_
    rintro _ w149 ⟨rfl, hb149⟩
    refine ⟨.inr (fun h => Below.step h hb149), ?_⟩
    have q149 := Below.step q140 hb149
    refine RL.call rfl rfl (C.func go30) (rsound_ret s true _ _ (hs24.bel q149) ⟨by omega, by omega⟩ (fun _ _ => trivial) (.inr ⟨10, hsm⟩)) ?_
    rintro _ w151 ⟨rfl, hb151⟩
    refine ⟨.inr (fun h => Below.step h hb151), ?_⟩
    have q151 := Below.step q149 hb151
    refine RL.any rfl rfl (fun _ => Y.bT (Y.eqb Try.underlying4 rfl rfl) (decide_eq_true rfl)) ?_
    refine RL.any rfl rfl (fun _ => Y.pickT rfl) ?_
    refine RL.any rfl rfl (fun _ => Y.move) ?_
    refine RL.any rfl rfl (fun _ => Y.move) ?_
    refine RL.held rfl rfl (Below.step (Below.step (Below.step (Below.step (Below.step (Below.step (Below.step hS12 hb97) hb109) hb133) hb136) hb140) hb149) hb151) (fun _ hb9 => Y.loadK Try.underlying25 rfl ti25 (rfl) rfl (Cells.bel hBR.cells hb9)) ?_
    refine RL.call rfl rfl (C.func go14) (nsound_ret (n24.bel q151) false) ?_
    rintro _ w156 ⟨rfl, hb156⟩
    refine ⟨.inr (fun h => Below.step h hb156), ?_⟩
    have q156 := Below.step q151 hb156
    refine RL.call rfl rfl (C.func go30) (rsound_ret s false _ _ (hs24.bel q156) ⟨by omega, by omega⟩ (fun _ _ => trivial) (.inr ⟨10, hsm⟩)) ?_
    rintro _ w158 ⟨rfl, hb158⟩
    refine ⟨.inr (fun h => Below.step h hb158), ?_⟩
    have q158 := Below.step q156 hb158
    refine RL.any rfl rfl (fun _ => Y.bT (Y.eqb Try.underlying4 rfl rfl) (decide_eq_true rfl)) ?_
    refine RL.any rfl rfl (fun _ => Y.pickT rfl) ?_
    refine RL.any rfl rfl (fun _ => Y.move) ?_
    refine RL.any rfl rfl (fun _ => Y.move) ?_
    refine RL.held rfl rfl (Below.step (Below.step (Below.step (Below.step (Below.step (Below.step (Below.step (Below.step (Below.step hS12 hb97) hb109) hb133) hb136) hb140) hb149) hb151) hb156) hb158) (fun _ hb9 => Y.loadK Try.underlying25 rfl ti25 (rfl) rfl (Cells.bel hBR.cells hb9)) ?_
    refine RL.call rfl rfl (C.func go24) (nnodes_ret (n24.bel q158) (by omega)) ?_
    rintro _ w163 ⟨rfl, hb163⟩
    refine ⟨.inr (fun h => Below.step h hb163), ?_⟩
    have q163 := Below.step q158 hb163
    refine RL.call rfl rfl (C.func go31) (rnodes_ret s _ _ (hs24.bel q163) (by omega)) ?_
    rintro _ w165 ⟨rfl, hb165⟩
    refine ⟨.inr (fun h => Below.step h hb165), ?_⟩
    have q165 := Below.step q163 hb165
    refine RL.any rfl rfl (fun _ => Y.dT (Y.eqi rfl rfl) (rfl)) ?_
    refine RL.any rfl rfl (fun _ => Y.pickT rfl) ?_
    refine RL.any rfl rfl (fun _ => Y.move) ?_
    refine RL.call rfl rfl (C.func go11) (known_ret _) ?_
    rintro _ w169 ⟨rfl, hb169⟩
    refine ⟨.inr (fun h => Below.step h hb169), ?_⟩
    refine RL.any rfl rfl (fun _ => Y.pickT rfl) ?_
    refine RL.any rfl rfl (fun _ => Y.assign) ?_
    refine RL.nil (thenQ.normal ?_)
    refine WC.ret (endQ.one (.inr rfl) ?_)
    exact ⟨rfl, Below.step k24 (Below.step q165 hb169)⟩
end Go.Proofs.Ytpefeefmdlfafaa
