/-
  law06: NodeNil: walk.
-/
import Derived.Test.YtpefeefmdlfafaaNod12
namespace Go.Proofs.Ytpefeefmdlfafaa
open Go Go.RowKit Go.Cx
set_option linter.unusedVariables false
set_option maxHeartbeats 8000000
set_option maxRecDepth 20000
theorem nil_sl {w : World} {k : Nat} : SlK w k (.slice none 0 0) 0 [] := (OwnK.nil (w := w) (bl := 0) (t := 0) (k := k)).sl
theorem inner_nils {w : World} {r : Value} (hs : SlK w 1 r 2 [.pointer none, .pointer none]) : Ret Try.prog 20 [r].toArray w fun v w' => v = .tuple #[.pointer none, .int .i64 2] ∧ Below w.heap.size w w' := by
  have hel : ∀ {b o : Nat} {w' : World}, Cells w' b o ((([.pointer none, .pointer none] : List Value).drop ((0 : Int).toNat * 1)).take 1) → w'.cell? ⟨b, o, none⟩ = some (.pointer none) := fun hc => hc 0 _ rfl
  refine Ret.of (n := 102) (rs := #[.tmp 2, .tmp 3]) Try.func20 rfl rfl rfl (by simp) ?_
  refine WC.seqR rfl ?_
  refine WL.y rfl (Y.assign) ?_
  refine WL.y rfl (Y.assign) ?_
  refine WL.nil ?_
  refine WC.seq ?_
  refine WC.seqR rfl ?_
  refine WL.y rfl (Y.move) ?_
  refine WL.y rfl (Y.lenSl Try.underlying49 (hs) _) ?_
  refine WL.y rfl (Y.dF (Y.lss rfl rfl) (by omega)) ?_
  refine WL.y rfl (Y.move) ?_
  refine WL.y rfl (Y.move) ?_
  refine WL.y rfl (Y.lenSl Try.underlying49 (hs) _) ?_
  refine WL.y rfl (Y.dF (Y.gtr rfl rfl) (by omega)) ?_
  refine WL.y rfl (Y.pickF rfl) ?_
  refine WL.nil ?_
  refine WC.condF (rfl) ?_
  refine WC.skip (thenQ.normal ?_)
  refine WC.seqR rfl ?_
  refine WL.y rfl (Y.move) ?_
  refine WL.yex rfl (Y.idx Try.underlying49 ti29 (by decide) (hs) rfl (by omega) (by omega)) ?_
  rintro _ ⟨b16, o16, rfl, hc16⟩
  refine WL.y rfl (Y.load1 Try.underlying29 rfl rfl (hel hc16)) ?_
  refine WL.call rfl (C.func go13) (nheight_nil _) ?_
  rintro _ _ ⟨rfl, rfl⟩
  refine WL.y rfl (Y.add64 rfl rfl (by omega)) ?_
  refine WL.y rfl (Y.build (cells := #[.slice none 0 0, .slice none 0 0, .int .i64 (0 + 1), .int .i64 0, strv [], strv [], .bool false]) (by kernel_rfl) _) ?_
  refine WL.eex rfl (E.boxX) ?_
  rintro _ w21 ⟨rfl, hB21, hb21⟩
  refine WL.y rfl (Y.assign) ?_
  refine WL.nil ?_
  refine WC.seq ?_
  refine WC.seqR rfl ?_
  refine WL.y rfl (Y.move) ?_
  refine WL.y rfl (Y.lenSl Try.underlying49 (hs.bel hb21) _) ?_
  refine WL.y rfl (Y.move) ?_
  refine WL.nil ?_
  refine WC.block ?_
  clear hB21
  refine WC.loop (fun _ => 0) (fun j f ds w' => j = 0 ∧ ds = [] ∧ Below w.heap.size w w' ∧ ∃ J, f = Go.Cx.ov J [(22, r), (23, .int .i64 ((2 : Nat) : Int)), (24, .int .i64 ((0 : Nat) : Int))]) 0 ?_ ?_
  · exact ⟨rfl, rfl, hb21, _, ov_mk ⟨rfl, rfl, rfl, trivial⟩⟩
  · rintro j _ _ wL ⟨rfl, rfl, kL, J, rfl⟩
    refine WC.seqR rfl ?_
    refine WL.y rfl (Y.lss rfl rfl) ?_
    refine WL.nil ?_
    refine WC.seq ?_
    refine WC.condD rfl (fun h0 => ?_) (fun h0 => ?_)
    · refine WC.skip (thenQ.normal ?_)
      refine WC.seq ?_
      refine WC.block ?_
      refine WC.seqR rfl ?_
      refine WL.yex rfl (Y.idx Try.underlying49 ti29 (by decide) (hs.bel kL) rfl (by omega) (by omega)) ?_
      rintro _ ⟨b26, o26, rfl, hc26⟩
      refine WL.y rfl (Y.load1 Try.underlying29 rfl rfl (hel hc26)) ?_
      refine WL.y rfl (Y.assign) ?_
      refine WL.nil ?_
      refine WC.seq ?_
      refine WC.seq ?_
      refine WC.regionB (fun _ => false) [(0, .any), (1, .seq), (2, .any), (3, .any), (4, .any), (5, .any), (6, .any), (7, .held), (8, .any), (9, .any), (10, .any), (11, .any), (12, .held), (13, .any), (14, .any)] mixed (by kernel_rfl) (fun w7x hS7 hheap => ?_)
      refine RL.any rfl rfl (fun _ => Y.move) ?_
      refine RL.call rfl rfl (C.func go15) (ncount_nil _) ?_
      rintro _ _ ⟨rfl, rfl⟩
      refine ⟨.inr id, ?_⟩
      refine RL.any rfl rfl (fun _ => Y.dT (Y.eqi rfl rfl) (rfl)) ?_
      refine RL.any rfl rfl (fun _ => Y.move) ?_
      refine RL.off rfl rfl ?_
      refine RL.off rfl rfl ?_
      refine RL.off rfl rfl ?_
      refine RL.offH rfl rfl hS7 ?_
      refine RL.off rfl rfl ?_
      refine RL.off rfl rfl ?_
      refine RL.off rfl rfl ?_
      refine RL.off rfl rfl ?_
      refine RL.offH rfl rfl hS7 ?_
      refine RL.off rfl rfl ?_
      refine RL.any rfl rfl (fun _ => Y.pickT rfl) ?_
      refine RL.nil (thenQ.normal ?_)
      refine WC.condT (rfl) ?_
      refine WC.seqR rfl ?_
      refine WL.y rfl (Y.assign) ?_
      refine WL.y rfl (Y.assign) ?_
      refine WL.nil ?_
      refine WC.ret (thenQ.ret (inBlockQ.ret (thenQ.ret (thenQ.ret (inBlockQ.ret (thenQ.ret (endQ.two (.inr rfl) ?_)))))))
      exact ⟨rfl, Below.step kL hS7⟩
    · omega
def kE : Sh := .mk [] []
theorem kE_ok : OkS kE := okS_leaf.2 ⟨by simp, fun i hi => absurd hi (by simp)⟩
theorem no_inner {l : List Sh} (h : ∀ k ∈ l, flatS k = []) : ¬ innerOk l := fun hi => by
  have h2 := hi.1.1
  have := (hi.2.1 _ (List.getElem_mem (show 0 < l.length by omega))).1
  exact this (h _ (List.getElem_mem _))
theorem nodeNil_ret (w : World) : Ret Try.prog 7 #[] w fun v w' => v = .bool true ∧ Below w.heap.size w w' := by
  have zE : flatS kE = [] := flatS_leaf _
  have zN : nodesS kE = 1 := by simp [kE, nodesS, nodesL]
  refine Ret.of (n := 121) (rs := #[.tmp 0]) Try.func7 rfl rfl rfl (by simp) ?_
  refine WC.seqR rfl ?_
  refine WL.y rfl (Y.assign) ?_
  refine WL.nil ?_
  refine WC.seqR rfl ?_
  refine WL.y rfl (Y.assign) ?_
  refine WL.nil ?_
  refine WC.seqR rfl ?_
  refine WL.y rfl (Y.move) ?_
  refine WL.call rfl (C.func go18) (nentry_nil _ 0) ?_
  rintro _ w15 ⟨rfl, hb15⟩
  refine WL.y rfl (Y.move) ?_
  refine WL.y rfl (Y.extract rfl rfl) ?_
  refine WL.y rfl (Y.extract rfl rfl) ?_
  refine WL.eex rfl (E.allocX ti42) ?_
  rintro _ w2 ⟨rfl, hB2, hb2⟩
  refine WL.eex rfl (E.storeAllK (us := zEn) ti42 rfl rfl rfl zEn_one hB2 rfl) ?_
  rintro _ w2s ⟨-, hg2⟩
  have k2 : Below w.heap.size w w2s := Below.stepG (Below.step hb15 hb2) hg2 hb15.size
  refine WL.y rfl (Y.assign) ?_
  refine WL.nil ?_
  refine WC.seqR rfl ?_
  refine WL.call rfl (C.func go20) (innerF (l := []) (bs := []) (M := fun _ => True) ⟨rfl, nil_sl, fun j h => absurd h (by simp)⟩ (by simp [flatL]) (by simp [nodesL]) (by simp) (no_inner (fun k hk => absurd hk (by simp)))) ?_
  rintro _ w19 ⟨rfl, hb19⟩
  refine WL.y rfl (Y.move) ?_
  refine WL.y rfl (Y.extract rfl rfl) ?_
  refine WL.y rfl (Y.extract rfl rfl) ?_
  refine WL.y rfl (Y.assign) ?_
  refine WL.y rfl (Y.assign) ?_
  refine WL.nil ?_
  refine WC.seqR rfl ?_
  refine WL.call rfl (C.func go16) (leafT (l := []) (EW.nil (M := fun _ => True)).at (by simp) kE_ok) ?_
  rintro _ w23 ⟨⟨b, rfl, n23⟩, hb23⟩
  have n23 := n23.mono (M' := fun _ => True) (fun _ _ _ => trivial)
  refine WL.y rfl (Y.move) ?_
  refine WL.y rfl (Y.extract rfl rfl) ?_
  refine WL.y rfl (Y.extract rfl rfl) ?_
  refine WL.y rfl (Y.assign) ?_
  refine WL.y rfl (Y.assign) ?_
  refine WL.nil ?_
  refine WC.seqR rfl ?_
  refine WL.eex rfl (E.buildSliceX (len := 2) (cs := [.pointer none, .pointer none]) Try.underlying49 ti29 (by omega) (by omega) (by kernel_rfl) rfl) ?_
  rintro v27 w27 ⟨-, ho27, hb27, -⟩
  refine WL.call rfl (C.func go20) (inner_nils (ownsRow_sl ho27)) ?_
  rintro _ w28 ⟨rfl, hb28⟩
  refine WL.y rfl (Y.move) ?_
  refine WL.y rfl (Y.extract rfl rfl) ?_
  refine WL.y rfl (Y.extract rfl rfl) ?_
  refine WL.y rfl (Y.assign) ?_
  refine WL.y rfl (Y.assign) ?_
  refine WL.nil ?_
  refine WC.seqR rfl ?_
  refine WL.y rfl (Y.move) ?_
  refine WL.y rfl (Y.move) ?_
  refine WL.eex rfl (E.buildSliceX (len := 2) (cs := [ptr b, ptr b]) Try.underlying49 ti29 (by omega) (by omega) (by kernel_rfl) rfl) ?_
  rintro v34 w34 ⟨-, ho34, hb34, -⟩
  have n34 := ((n23.bel hb27).bel hb28).bel hb34
  refine WL.call rfl (C.func go20) (innerF (ps_two (s := kE) (t := kE) n34 n34 (ownsRow_sl ho34)) (by rw [flatL, flatL, flatL, zE]; simp) (by rw [nodesL, nodesL, nodesL, zN]; omega) (by simp) (no_inner (fun k hk => by simp at hk; rw [hk]; exact zE))) ?_
  rintro _ w35 ⟨rfl, hb35⟩
  refine WL.y rfl (Y.move) ?_
  refine WL.y rfl (Y.extract rfl rfl) ?_
  refine WL.y rfl (Y.extract rfl rfl) ?_
  refine WL.y rfl (Y.assign) ?_
  refine WL.y rfl (Y.assign) ?_
  refine WL.nil ?_
  refine WC.seqR rfl ?_
  refine WL.y rfl (Y.move) ?_
  refine WL.call rfl (C.func go19) (nshape_nil _) ?_
  rintro _ w39 ⟨rfl, hb39⟩
  refine WL.eex rfl (E.allocX ti25) ?_
  rintro _ w12 ⟨rfl, hB12, hb12⟩
  refine WL.eex rfl (E.storeAllK (us := [.slice none 0 0, .slice none 0 0]) ti25 rfl rfl rfl (one_two rfl rfl) hB12 rfl) ?_
  rintro _ w12s ⟨hB12', hg12⟩
  refine WL.nil ?_
  have k39 : Below w.heap.size w w39 := Below.step (Below.step (Below.step (Below.step (Below.step (Below.step (Below.step k2 hb19) hb23) hb27) hb28) hb34) hb35) hb39
  have k12 : Below w.heap.size w w12s := Below.stepG (Below.step k39 hb12) hg12 k39.size
  have n39 := ((n34.bel hb35).bel hb39).mono (M' := fun b => b < w39.heap.size) (fun b h _ => h)
  have n12s : NdR w12s (fun b => b < w39.heap.size) kE b := (n39.bel hb12).kept (Kept.of_grown hg12 rfl) (fun b h1 h2 => by omega)
  clear hB12
  refine WC.seq ?_
  refine WC.regionN [(0, 1099511627776, 2), (1, 2199023255552, 1099511627776), (0, 4398046511104, 2), (6, 8796093022208, 4398046511104), (10, 17592186044416, 10995116277760), (0, 35184372088832, 2), (40, 70368744177664, 35184372088832), (80, 140737488355328, 87960930222080), (0, 281474976710656, 2), (320, 562949953421312, 281474976710656), (640, 1125899906842624, 703687441776640), (1024, 2251799813685248, 1125899906842624), (2560, 4503599627370496, 2251799813685248), (4096, 9007199254740992, 4503599627370498), (12288, 18014398509481984, 13510798882111488), (20480, 36028797018963968, 22517998136852480), (36864, 72057594037927936, 40532396646334464), (81920, 144115188075855872, 72057594037927936), (131072, 288230376151711744, 144115188075855874), (393216, 576460752303423488, 432345564227567616), (655360, 1152921504606846976, 720575940379279360), (1179648, 2305843009213693952, 1297036692682702848), (2621440, 4611686018427387904, 2305843009213693952), (4194304, 9223372036854775808, 4611686018427387912), (12582912, 18446744073709551616, 13835058055282163712), (20971520, 36893488147419103232, 23058430092136939520), (37748736, 73786976294838206464, 36893488147419103232), (67108864, 147573952589676412928, 73786976294838206466), (201326592, 295147905179352825856, 221360928884514619392), (335544320, 590295810358705651712, 368934881474191032320), (67108864, 1180591620717411303424, 73786976294838206466), (1409286144, 2361183241434822606848, 1254378597012249509888), (2214592512, 4722366482869645213696, 2434970217729660813312), (4898947072, 9444732965739290427392, 5386449269523189071872), (67108864, 18889465931478580854784, 73786976294838210560), (17246978048, 37778931862957161709568, 18963252907773419061248), (34426847232, 75557863725914323419136, 37852718839251999916032), (77376520192, 151115727451828646838272, 85076383667948452052992), (67108864, 302231454903657293676544, 73786976294838210560), (274945015808, 604462909807314587353088, 302305241879952131883008), (549822922752, 1208925819614629174706176, 604536696783609425559552), (1237017690112, 2417851639229258349412352, 1360115334042752659750912), (2199090364416, 4835703278458516698824704, 2417925426205553187618816), (4398113619968, 9671406556917033397649408, 4835777065434811537031168), (8798240505856, 19342813113834066795298816, 9671406556917033397649408), (17592186044416, 38685626227668133590597632, 19342813113834066795298818), (52776558133248, 77371252455336267181195264, 58028439341502200385896448), (87960930222080, 154742504910672534362390528, 96714065569170333976494080), (211106232532992, 309485009821345068724781056, 154742504910672534362390528), (281474976710656, 618970019642690137449562112, 309485009821345068724781058), (844424930131968, 1237940039285380274899124224, 928455029464035206174343168), (1407374883553280, 2475880078570760549798248448, 1547425049106725343623905280), (2533274790395904, 4951760157141521099596496896, 2785365088392105618523029504), (5629499534213120, 9903520314283042199192993792, 4951760157141521099596496896), (9007199254740992, 19807040628566084398385987584, 9903520314283042199192993824), (27021597764222976, 39614081257132168796771975168, 29710560942849126597578981376), (45035996273704960, 79228162514264337593543950336, 49517601571415210995964968960), (81064793292668928, 158456325028528675187087900672, 79228162514264337593543950336), (144115188075855872, 316912650057057350374175801344, 158456325028528675187087900800), (432345564227567616, 633825300114114700748351602688, 475368975085586025561263702016), (720575940379279360, 1267650600228229401496703205376, 792281625142643375935439503360), (1297036692682702848, 2535301200456458802993406410752, 1267650600228229401496703205376), (2305843009213693952, 5070602400912917605986812821504, 2535301200456458802993406410816), (6917529027641081856, 10141204801825835211973625643008, 7605903601369376408980219232256), (11529215046068469760, 20282409603651670423947251286016, 12676506002282294014967032053760), (20752587082923245568, 40564819207303340847894502572032, 20282409603651670423947251286016), (36893488147419103232, 81129638414606681695789005144064, 40564819207303340847894502572096), (110680464442257309696, 162259276829213363391578010288128, 121694457621910022543683507716096), (184467440737095516160, 324518553658426726783156020576256, 202824096036516704239472512860160), (332041393326771929088, 649037107316853453566312041152512, 365083372865730067631050523148288), (737869762948382064640, 1298074214633706907132624082305024, 649037107316853453566312041152512), (1180591620717411303424, 2596148429267413814265248164610048, 1298074214633706907132624082305536), (3541774862152233910272, 5192296858534827628530496329220096, 3894222643901120721397872246915072), (5902958103587056517120, 10384593717069655257060992658440192, 6490371073168534535663120411525120), (10625324586456701730816, 20769187434139310514121985316880384, 10384593717069655257060992658440192), (18889465931478580854784, 41538374868278621028243970633760768, 20769187434139310514121985316882432), (56668397794435742564352, 83076749736557242056487941267521536, 62307562302417931542365955950641152), (94447329657392904273920, 166153499473114484112975882535043072, 103845937170696552570609926584401920), (170005193383307227693056, 332306998946228968225951765070086144, 166153499473114484112975882535043072), (302231454903657293676544, 664613997892457936451903530140172288, 332306998946228968225951765070086144), (906694364710971881029632, 1329227995784915872903807060280344576, 996920996838686904677855295210258432), (2417851639229258349412351, 1, 1329227995784915872903807060280344576)] [1, 5, 37, 293, 295, 303, 319, 383, 511, 1023, 2047, 4095, 8191, 16383, 32767, 65535, 131071, 262143, 524287, 1048575, 2097151, 4194303, 8388607, 16777215, 33554431, 67108863, 134217727, 268435455, 1342177279, 18522046463, 52881784831, 121601261567, 396479168511, 946234982399, 2045746610175, 2046015045631, 2046551916543, 2048699400191, 2052994367487, 2061584302079, 2199023255551, 4398046511103, 8796093022207, 17592186044415, 35184372088831, 70368744177663, 140737488355327, 281474976710655, 562949953421311, 1125899906842623, 2251799813685247, 4503599627370495, 9007199254740991, 18014398509481983, 36028797018963967, 72057594037927935, 144115188075855871, 288230376151711743, 576460752303423487, 1152921504606846975, 2305843009213693951, 4611686018427387903, 9223372036854775807, 18446744073709551615, 36893488147419103231, 73786976294838206463, 147573952589676412927, 295147905179352825855, 590295810358705651711, 1180591620717411303423, 2361183241434822606847, 4722366482869645213695, 9444732965739290427391, 18889465931478580854783, 37778931862957161709567, 75557863725914323419135, 151115727451828646838271, 302231454903657293676543, 604462909807314587353087, 1208925819614629174706175, 2417851639229258349412351, 4835703278458516698824703] [(0, .any), (2, .any), (5, .any), (8, .any), (1, .seq), (3, .seq), (4, .any), (6, .seq), (7, .any), (9, .seq), (10, .any), (11, .any), (12, .any), (13, .any), (14, .seq), (15, .any), (16, .any), (17, .any), (18, .any), (19, .seq), (20, .any), (21, .any), (22, .any), (23, .any), (24, .any), (25, .any), (26, .any), (27, .any), (30, .any), (34, .any), (35, .held), (36, .any), (38, .any), (39, .held), (40, .any), (28, .seq), (29, .any), (31, .seq), (32, .any), (33, .any), (37, .any), (41, .any), (42, .any), (43, .any), (44, .any), (45, .any), (46, .seq), (47, .any), (48, .any), (49, .any), (50, .seq), (51, .any), (52, .any), (53, .any), (54, .any), (55, .any), (56, .any), (57, .any), (58, .any), (59, .any), (60, .any), (61, .any), (62, .any), (63, .any), (64, .any), (65, .any), (66, .any), (67, .seq), (68, .any), (69, .any), (70, .any), (71, .any), (72, .any), (73, .any), (74, .any), (75, .any), (76, .any), (77, .any), (78, .any), (79, .seq), (80, .any), (81, .any)] mixed (by kernel_rfl) (by kernel_rfl) (by kernel_rfl) (fun w8x hS8 hheap => ?_)
  refine RL.any rfl rfl (fun _ => Y.move) ?_
  refine RL.any rfl rfl (fun _ => Y.move) ?_
  refine RL.any rfl rfl (fun _ => Y.move) ?_
  refine RL.any rfl rfl (fun _ => Y.move) ?_
  refine RL.call rfl rfl (C.func go13) (nheight_nil _) ?_
  rintro _ _ ⟨rfl, rfl⟩
  refine ⟨.inr id, ?_⟩
  refine RL.call rfl rfl (C.func go15) (ncount_nil _) ?_
  rintro _ _ ⟨rfl, rfl⟩
  refine ⟨.inr id, ?_⟩
  refine RL.any rfl rfl (fun _ => Y.add64 rfl rfl (by omega)) ?_
  refine RL.call rfl rfl (C.func go23) (nsize_nil _) ?_
  rintro _ _ ⟨rfl, rfl⟩
  refine ⟨.inr id, ?_⟩
  refine RL.any rfl rfl (fun _ => Y.add64 rfl rfl (by omega)) ?_
  refine RL.call rfl rfl (C.func go24) (nnodes_nil _) ?_
  rintro _ _ ⟨rfl, rfl⟩
  refine ⟨.inr id, ?_⟩
  refine RL.any rfl rfl (fun _ => Y.add64 rfl rfl (by omega)) ?_
  refine RL.any rfl rfl (fun _ => Y.dT (Y.eqi rfl rfl) (rfl)) ?_
  refine RL.any rfl rfl (fun _ => Y.move) ?_
  refine RL.any rfl rfl (fun _ => Y.move) ?_
  refine RL.call rfl rfl (C.func go25) (nfirst_nil _) ?_
  rintro _ _ ⟨rfl, rfl⟩
  refine ⟨.inr id, ?_⟩
  refine RL.any rfl rfl (fun _ => Y.bT (Y.eqS (b := []) rfl rfl) (rfl)) ?_
  refine RL.any rfl rfl (fun _ => Y.pickT rfl) ?_
  refine RL.any rfl rfl (fun _ => Y.move) ?_
  refine RL.any rfl rfl (fun _ => Y.move) ?_
  refine RL.call rfl rfl (C.func go26) (nlast_nil _) ?_
  rintro _ _ ⟨rfl, rfl⟩
  refine ⟨.inr id, ?_⟩
  refine RL.any rfl rfl (fun _ => Y.bT (Y.eqS (b := []) rfl rfl) (rfl)) ?_
  refine RL.any rfl rfl (fun _ => Y.pickT rfl) ?_
  refine RL.any rfl rfl (fun _ => Y.move) ?_
  refine RL.any rfl rfl (fun _ => Y.move) ?_
  refine RL.any rfl rfl (fun _ => Y.not rfl) ?_
  refine RL.any rfl rfl (fun _ => Y.pickT rfl) ?_
  refine RL.any rfl rfl (fun _ => Y.move) ?_
  refine RL.any rfl rfl (fun _ => Y.move) ?_
  refine RL.any rfl rfl (fun _ => Y.move) ?_
  refine RL.any rfl rfl (fun _ => Y.fieldAddr fi25f0 ti22 (by decide) rfl (rfl) _) ?_
  refine RL.held rfl rfl hS8 (fun _ hb9 => Y.load1 Try.underlying22 rfl rfl (cell_bel (hB12'.cell 0) hb9)) ?_
  refine RL.any rfl rfl (fun _ => Y.lenSl Try.underlying22 ((nil_sl (w := w) (k := 1))) _) ?_
  refine RL.any rfl rfl (fun _ => Y.fieldAddr fi25f1 ti23 (by decide) rfl (rfl) _) ?_
  refine RL.held rfl rfl hS8 (fun _ hb9 => Y.load1 Try.underlying23 rfl rfl (cell_bel (hB12'.cell 1) hb9)) ?_
  refine RL.any rfl rfl (fun _ => Y.lenSl Try.underlying23 ((nil_sl (w := w) (k := 1))) _) ?_
  refine RL.call rfl rfl (C.func go17) (nentries_nil _) ?_
  rintro _ _ ⟨rfl, rfl⟩
  refine ⟨.inr id, ?_⟩
  refine RL.any rfl rfl (fun _ => Y.lenSl Try.underlying22 ((nil_sl (w := w) (k := 1))) _) ?_
  refine RL.call rfl rfl (C.func go21) (nkids_nil _) ?_
  rintro _ _ ⟨rfl, rfl⟩
  refine ⟨.inr id, ?_⟩
  refine RL.any rfl rfl (fun _ => Y.lenSl Try.underlying49 ((nil_sl (w := w) (k := 1))) _) ?_
  refine RL.any rfl rfl (fun _ => Y.add64 rfl rfl (by omega)) ?_
  refine RL.any rfl rfl (fun _ => Y.add64 rfl rfl (by omega)) ?_
  refine RL.any rfl rfl (fun _ => Y.add64 rfl rfl (by omega)) ?_
  refine RL.any rfl rfl (fun _ => Y.dT (Y.eqi rfl rfl) (rfl)) ?_
  refine RL.any rfl rfl (fun _ => Y.pickT rfl) ?_
  refine RL.any rfl rfl (fun _ => Y.move) ?_
  refine RL.any rfl rfl (fun _ => Y.move) ?_
  refine RL.call rfl rfl (C.func go14) (nsound_nil _ true) ?_
  rintro _ _ ⟨rfl, rfl⟩
  refine ⟨.inr id, ?_⟩
  refine RL.any rfl rfl (fun _ => Y.pickT rfl) ?_
  refine RL.any rfl rfl (fun _ => Y.move) ?_
  refine RL.any rfl rfl (fun _ => Y.move) ?_
  refine RL.call rfl rfl (C.func go14) (nsound_nil _ false) ?_
  rintro _ _ ⟨rfl, rfl⟩
  refine ⟨.inr id, ?_⟩
  refine RL.any rfl rfl (fun _ => Y.not rfl) ?_
  refine RL.any rfl rfl (fun _ => Y.pickT rfl) ?_
  refine RL.any rfl rfl (fun _ => Y.move) ?_
  refine RL.any rfl rfl (fun _ => Y.move) ?_
  refine RL.any rfl rfl (fun _ => Y.dT (Y.eqi rfl rfl) (rfl)) ?_
  refine RL.any rfl rfl (fun _ => Y.pickT rfl) ?_
  refine RL.any rfl rfl (fun _ => Y.move) ?_
  refine RL.any rfl rfl (fun _ => Y.move) ?_
  refine RL.any rfl rfl (fun _ => Y.dT (Y.eqi rfl rfl) (rfl)) ?_
  refine RL.any rfl rfl (fun _ => Y.pickT rfl) ?_
  refine RL.any rfl rfl (fun _ => Y.move) ?_
  refine RL.any rfl rfl (fun _ => Y.move) ?_
  refine RL.any rfl rfl (fun _ => Y.bT (Y.nepn Try.underlying29 rfl rfl) (rfl)) ?_
  refine RL.any rfl rfl (fun _ => Y.pickT rfl) ?_
  refine RL.any rfl rfl (fun _ => Y.move) ?_
  refine RL.any rfl rfl (fun _ => Y.move) ?_
  refine RL.call rfl rfl (C.func go24) (nnodes_ret (n12s.bel hS8) (by rw [zN]; omega)) ?_
  rintro _ w107 ⟨rfl, hb107⟩
  refine ⟨.inr (fun h => Below.step h hb107), ?_⟩
  refine RL.any rfl rfl (fun _ => Y.dT (Y.eqi rfl rfl) (by rw [zN]; rfl)) ?_
  refine RL.any rfl rfl (fun _ => Y.pickT rfl) ?_
  refine RL.any rfl rfl (fun _ => Y.move) ?_
  refine RL.any rfl rfl (fun _ => Y.move) ?_
  refine RL.any rfl rfl (fun _ => Y.dT (Y.eqi rfl rfl) (rfl)) ?_
  refine RL.any rfl rfl (fun _ => Y.pickT rfl) ?_
  refine RL.any rfl rfl (fun _ => Y.move) ?_
  refine RL.any rfl rfl (fun _ => Y.move) ?_
  refine RL.any rfl rfl (fun _ => Y.dT (Y.eqi rfl rfl) (rfl)) ?_
  refine RL.any rfl rfl (fun _ => Y.pickT rfl) ?_
  refine RL.any rfl rfl (fun _ => Y.move) ?_
  refine RL.call rfl rfl (C.func go11) (known_ret _) ?_
  rintro _ w119 ⟨rfl, hb119⟩
  refine ⟨.inr (fun h => Below.step h hb119), ?_⟩
  refine RL.any rfl rfl (fun _ => Y.pickT rfl) ?_
  refine RL.any rfl rfl (fun _ => Y.assign) ?_
  refine RL.nil (thenQ.normal ?_)
  refine WC.ret (endQ.one (.inr rfl) ?_)
  exact ⟨rfl, Below.step (Below.step (Below.step k12 hS8) hb107) hb119⟩
end Go.Proofs.Ytpefeefmdlfafaa
