/- Part 5 of the proof: walks through the program's functions, and what they compute in plain Lean. -/
import Derived.Test.YteenegaadlhjdaaP4
import Derived.KernelRfl
set_option linter.all false
namespace Go.Proofs.Yteenegaadlhjdaa
open Go.Proofs Go.RowKit
abbrev qd1 : Nd := (Nd.classS ([97]))
abbrev qd2 : Nd := (Nd.classS ([98]))
abbrev qd3 : Nd := (Nd.classS ([99]))
abbrev qd4 : Nd := (Nd.classS ([100]))
abbrev qd5 : Nd := (Nd.classS ([97, 98]))
abbrev qd6 : Nd := (Nd.mk 1 Nd.zero 0 0 ([]))
abbrev qd7 : Nd := (Nd.mk 5 Nd.zero 0 1 [qd1])
abbrev qd8 : Nd := (Nd.mk 5 Nd.zero 2 2 [qd7])
abbrev qd9 : Nd := (Nd.mk 6 Nd.zero 0 0 ([qd1]))
abbrev qd10 : Nd := (Nd.mk 5 Nd.zero 0 (-1) [qd1])
abbrev qd11 : Nd := (Nd.mk 5 Nd.zero 0 (-1) [qd2])
abbrev qd12 : Nd := (Nd.mk 5 Nd.zero 1 (-1) [qd1])
abbrev qd13 : Nd := (Nd.mk 5 Nd.zero 1 (-1) [qd10])
abbrev qd14 : Nd := (Nd.mk 4 Nd.zero 0 0 ([qd1, qd6]))
abbrev qd15 : Nd := (Nd.mk 4 Nd.zero 0 0 ([qd9, qd2]))
abbrev qd16 : Nd := (Nd.mk 3 Nd.zero 0 0 ([qd1, qd2]))
abbrev qd17 : Nd := (Nd.mk 3 Nd.zero 0 0 ([qd3, qd4]))
abbrev qd18 : Nd := (Nd.mk 4 Nd.zero 0 0 ([qd11, qd1]))
abbrev qd19 : Nd := (Nd.mk 5 Nd.zero 0 1 [qd18])
abbrev qd20 : Nd := (Nd.mk 4 Nd.zero 0 0 ([qd1, qd11]))
abbrev qd21 : Nd := (Nd.mk 3 Nd.zero 0 0 ([qd12, qd2]))
abbrev qd22 : Nd := (Nd.mk 4 Nd.zero 0 0 ([qd16, qd17]))
abbrev qd23 : Nd := (Nd.mk 3 Nd.zero 0 0 ([qd10, qd10]))
abbrev qd24 : Nd := (Nd.mk 4 Nd.zero 0 0 ([qd2, qd1, qd2]))
abbrev qd25 : Nd := (Nd.mk 4 Nd.zero 0 0 ([qd9, qd2, qd2]))
abbrev qd26 : Nd := (Nd.mk 4 Nd.zero 0 0 ([qd9, qd2, qd3]))
abbrev qd27 : Nd := (Nd.mk 3 Nd.zero 0 0 ([qd1, qd10, qd2]))
abbrev qd28 : Nd := (Nd.mk 4 Nd.zero 0 0 ([qd16, qd17, qd16]))
theorem Norm_okC {D : Nat → Prop} {w : World} {l : List Value} {T : Nd} (hT : NodeL D w l T) (hc : T.clean = true) (hfi : Nd.Fine T) (hs : T.sok = true) : Calls Try.prog 9 #[.agg l.toArray] w fun e w' => ∃ l', e = .returned (.tuple #[.agg l'.toArray, .int .i64 0]) ∧ NodeL (fun k => w.heap.size ≤ k) w' l' (Nd.norm T) ∧ Ext w w' := by
 have h := Norm_ok Nd.normOk D w l T hT (fun _ => hfi) hs
 rw [hc] at h
 exact h
set_option maxRecDepth 20000 in
set_option maxHeartbeats 4000000 in
theorem awake11_ok (w : World) :
  Calls Try.prog 6 #[] w fun e w' => e = .returned (.bool true) ∧ Ext w w' := by
 refine Calls.enter (args := []) Try.func6 rfl rfl rfl rfl ?_
 refine WC.seqk ?_
 refine WC.region ?_
 refine WL.assign rfl rfl rfl ?_
 refine WL.dn ?_
 refine WC.seqk ?_
 refine WC.region ?_
 refine WL.call rfl rfl rfl Ty.ent12 (class11_ok _ ([97]) (by decide)) ?_
 rintro _ w3 ⟨l1, rfl, hr1, hE2⟩
 have hzhE2 := hE2.size
 refine ⟨_, rfl, ?_⟩
 have hn1 := hr1.lt
 obtain ⟨a1, cap1, rfl, hts1, hlen1⟩ := hn1.op2
 refine WL.call rfl rfl rfl Ty.ent12 (class11_ok _ ([98]) (by decide)) ?_
 rintro _ w6 ⟨l4, rfl, hr4, hE5⟩
 have hzhE5 := hE5.size
 refine ⟨_, rfl, ?_⟩
 have hn4 := hr4.lt
 obtain ⟨a4, cap4, rfl, hts4, hlen4⟩ := hn4.op2
 refine WL.build (l := (zc 1 0 0 (.slice none 0 0))) rfl rfl Ty.zero30 Ty.st30 ⟨⟨rfl, rfl⟩, (by kernel_rfl)⟩ ?_
 have hn7 : NodeL _ w6 (zc 1 0 0 (.slice none 0 0)) qd6 := NodeL.shut (k := 1) (s := Nd.zero) (mn := 0) (mx := 0) (sl := .slice none 0 0) (ts := []) (NodesV.nil (fun _ => False) _ none 0)
 have hn7 := hn7.lt
 refine WL.alloc rfl rfl Ty.zero30 rfl (fun b8 w13 hb9 hE12 hs10 hR11 => ?_)
 refine WL.alloc rfl rfl Ty.zero30 rfl (fun b14 w19 hb15 hE18 hs16 hR17 => ?_)
 refine WL.alloc rfl rfl Ty.zero30 rfl (fun b20 w25 hb21 hE24 hs22 hR23 => ?_)
 have h28 := ((hR11.ext hE18).ext hE24)
 refine WL.store_box rfl rfl rfl h28 Ty.agg30 rfl rfl (fun w29 hB27 hR26 => ?_)
 have hzhB27 := hB27.size
 have h32 := (hB27.row (hR17.ext hE24) (by omega))
 refine WL.store_box rfl rfl rfl h32 Ty.agg30 rfl rfl (fun w33 hB31 hR30 => ?_)
 have hzhB31 := hB31.size
 have h36 := (hB31.row (hB27.row hR23 (by omega)) (by omega))
 refine WL.store_box rfl rfl rfl h36 Ty.agg30 rfl rfl (fun w37 hB35 hR34 => ?_)
 have hzhB35 := hB35.size
 refine WL.dn ?_
 refine WC.seqk ?_
 refine WC.region ?_
 have h38 := (hB35.row (hB31.row hR26 (by omega)) (by omega))
 refine WL.load_box rfl rfl rfl h38 Ty.agg30 ?_
 have h39 := (((((((hn1.ext hE5).ext hE12).ext hE18).ext hE24).bu hB27).bu hB31).bu hB35)
 refine WL.call rfl rfl rfl Ty.ent18 (rep11_ok _ _ _ qd1 0 (-1) h39) ?_
 rintro _ w42 ⟨l40, rfl, hr40, hE41⟩
 have hzhE41 := hE41.size
 refine ⟨_, rfl, ?_⟩
 have hn40 := hr40.lt
 obtain ⟨a40, cap40, rfl, hts40, hlen40⟩ := hn40.op2
 refine WL.alloc rfl rfl Ty.zero30 rfl (fun b43 w48 hb44 hE47 hs45 hR46 => ?_)
 refine WL.store_box rfl rfl rfl hR46 Ty.agg30 rfl rfl (fun w51 hB50 hR49 => ?_)
 have hzhB50 := hB50.size
 refine WL.dn ?_
 refine WC.seqk ?_
 refine WC.region ?_
 have h52 := (hB50.row ((h38.ext hE41).ext hE47) (by omega))
 refine WL.load_box rfl rfl rfl h52 Ty.agg30 ?_
 have h53 := (hB50.row (((hB35.row hR30 (by omega)).ext hE41).ext hE47) (by omega))
 refine WL.load_box rfl rfl rfl h53 Ty.agg30 ?_
 have h54 := (((h39.ext hE41).ext hE47).bu hB50)
 have h55 := (((((((((hn4.ext hE12).ext hE18).ext hE24).bu hB27).bu hB31).bu hB35).ext hE41).ext hE47).bu hB50)
 refine WL.buildSlice (vs := [.agg (tcells qd1 (.slice a1 qd1.subs.length cap1)).toArray, .agg (tcells qd2 (.slice a4 qd2.subs.length cap4)).toArray]) (cells := (tcells qd1 (.slice a1 qd1.subs.length cap1) ++ tcells qd2 (.slice a4 qd2.subs.length cap4))) rfl rfl Ty.slice24 Ty.zero30 rfl rfl rfl rfl rfl rfl (fun b56 w61 hb57 hE60 hs58 hR59 => ?_)
 have hts56 := (NodesV.lit (n := 2) (ts := [qd1, qd2]) hR59 (RowsL.cons (h54.ext hE60) (RowsL.cons (h55.ext hE60) (RowsL.nil' _))) rfl rfl (by decide)).lt
 refine WL.call rfl rfl rfl Ty.ent19 (node11_ok _ _ 3 _ _ ([qd1, qd2]) hts56) ?_
 rintro _ w64 ⟨l62, rfl, hr62, hE63⟩
 have hzhE63 := hE63.size
 refine ⟨_, rfl, ?_⟩
 have hn62 := hr62.lt
 obtain ⟨a62, cap62, rfl, hts62, hlen62⟩ := hn62.op2
 refine WL.call rfl rfl rfl Ty.ent12 (class11_ok _ ([99]) (by decide)) ?_
 rintro _ w67 ⟨l65, rfl, hr65, hE66⟩
 have hzhE66 := hE66.size
 refine ⟨_, rfl, ?_⟩
 have hn65 := hr65.lt
 obtain ⟨a65, cap65, rfl, hts65, hlen65⟩ := hn65.op2
 refine WL.call rfl rfl rfl Ty.ent12 (class11_ok _ ([100]) (by decide)) ?_
 rintro _ w70 ⟨l68, rfl, hr68, hE69⟩
 have hzhE69 := hE69.size
 refine ⟨_, rfl, ?_⟩
 have hn68 := hr68.lt
 obtain ⟨a68, cap68, rfl, hts68, hlen68⟩ := hn68.op2
 refine WL.buildSlice (vs := [.agg (tcells qd3 (.slice a65 qd3.subs.length cap65)).toArray, .agg (tcells qd4 (.slice a68 qd4.subs.length cap68)).toArray]) (cells := (tcells qd3 (.slice a65 qd3.subs.length cap65) ++ tcells qd4 (.slice a68 qd4.subs.length cap68))) rfl rfl Ty.slice24 Ty.zero30 rfl rfl rfl rfl rfl rfl (fun b71 w76 hb72 hE75 hs73 hR74 => ?_)
 have hts71 := (NodesV.lit (n := 2) (ts := [qd3, qd4]) hR74 (RowsL.cons ((hn65.ext hE69).ext hE75) (RowsL.cons (hn68.ext hE75) (RowsL.nil' _))) rfl rfl (by decide)).lt
 refine WL.call rfl rfl rfl Ty.ent19 (node11_ok _ _ 3 _ _ ([qd3, qd4]) hts71) ?_
 rintro _ w79 ⟨l77, rfl, hr77, hE78⟩
 have hzhE78 := hE78.size
 refine ⟨_, rfl, ?_⟩
 have hn77 := hr77.lt
 obtain ⟨a77, cap77, rfl, hts77, hlen77⟩ := hn77.op2
 refine WL.alloc rfl rfl Ty.zero30 rfl (fun b80 w85 hb81 hE84 hs82 hR83 => ?_)
 refine WL.alloc rfl rfl Ty.zero30 rfl (fun b86 w91 hb87 hE90 hs88 hR89 => ?_)
 refine WL.store_box rfl rfl rfl (hR83.ext hE90) Ty.agg30 rfl rfl (fun w94 hB93 hR92 => ?_)
 have hzhB93 := hB93.size
 refine WL.store_box rfl rfl rfl (hB93.row hR89 (by omega)) Ty.agg30 rfl rfl (fun w97 hB96 hR95 => ?_)
 have hzhB96 := hB96.size
 refine WL.dn ?_
 refine WC.seqk ?_
 refine WC.weaken (r' := [(0, .bool false), (1, pt b8 0), (2, pt b14 0), (3, pt b20 0), (4, pt b43 0), (5, pt b80 0), (6, pt b86 0)]) (sr rfl (sr rfl (sr rfl (sr rfl (sr rfl (sr rfl (sr rfl (subReg_nil _)))))))) ?_
 refine WC.region ?_
 have h98 := (hB96.row (hB93.row ((((((((h52.ext hE60).ext hE63).ext hE66).ext hE69).ext hE75).ext hE78).ext hE84).ext hE90) (by omega)) (by omega))
 refine WL.load_box rfl rfl rfl h98 Ty.agg30 ?_
 have h99 := ((((((((((h54.ext hE60).ext hE63).ext hE66).ext hE69).ext hE75).ext hE78).ext hE84).ext hE90).bu hB93).bu hB96)
 refine WL.buildSlice (vs := [.agg (tcells qd1 (.slice a1 qd1.subs.length cap1)).toArray]) (cells := (tcells qd1 (.slice a1 qd1.subs.length cap1))) rfl rfl Ty.slice24 Ty.zero30 rfl rfl rfl rfl rfl rfl (fun b100 w105 hb101 hE104 hs102 hR103 => ?_)
 have hts100 := (NodesV.lit (n := 1) (ts := [qd1]) hR103 (RowsL.cons (h99.ext hE104) (RowsL.nil' _)) rfl rfl (by decide)).lt
 refine WL.call rfl rfl rfl Ty.ent19 (node11_ok _ _ 6 _ _ ([qd1]) hts100) ?_
 rintro _ w108 ⟨l106, rfl, hr106, hE107⟩
 have hzhE107 := hE107.size
 refine ⟨_, rfl, ?_⟩
 have hn106 := hr106.lt
 obtain ⟨a106, cap106, rfl, hts106, hlen106⟩ := hn106.op2
 refine WL.alloc rfl rfl Ty.zero30 rfl (fun b109 w114 hb110 hE113 hs111 hR112 => ?_)
 refine WL.store_box rfl rfl rfl hR112 Ty.agg30 rfl rfl (fun w117 hB116 hR115 => ?_)
 have hzhB116 := hB116.size
 refine WL.dn ?_
 refine WC.seqk ?_
 refine WC.seqk ?_
 have h118 := ((((h99.ext hE104).ext hE107).ext hE113).bu hB116)
 have h119 := (((hts100.ext hE107).ext hE113).bu hB116)
 have h120 := ((hn106.ext hE113).bu hB116)
 have h121 := (hB116.row (((h98.ext hE104).ext hE107).ext hE113) (by omega))
 have h122 := (hB116.row ((((hB96.row (hB93.row ((((((((h53.ext hE60).ext hE63).ext hE66).ext hE69).ext hE75).ext hE78).ext hE84).ext hE90) (by omega)) (by omega)).ext hE104).ext hE107).ext hE113) (by omega))
 have h123 := ((((((((((((((h55.ext hE60).ext hE63).ext hE66).ext hE69).ext hE75).ext hE78).ext hE84).ext hE90).bu hB93).bu hB96).ext hE104).ext hE107).ext hE113).bu hB116)
 have h124 := (hB116.row ((((hB96.row (hB93.row (((((((((hB50.row ((hR34.ext hE41).ext hE47) (by omega)).ext hE60).ext hE63).ext hE66).ext hE69).ext hE75).ext hE78).ext hE84).ext hE90) (by omega)) (by omega)).ext hE104).ext hE107).ext hE113) (by omega))
 have h125 := (((((((((((((((((((((((hn7.ext hE12).ext hE18).ext hE24).bu hB27).bu hB31).bu hB35).ext hE41).ext hE47).bu hB50).ext hE60).ext hE63).ext hE66).ext hE69).ext hE75).ext hE78).ext hE84).ext hE90).bu hB93).bu hB96).ext hE104).ext hE107).ext hE113).bu hB116)
 have h126 := (hB116.row ((((hB96.row (hB93.row ((((((((hR49.ext hE60).ext hE63).ext hE66).ext hE69).ext hE75).ext hE78).ext hE84).ext hE90) (by omega)) (by omega)).ext hE104).ext hE107).ext hE113) (by omega))
 have h127 := ((((((((((((((((hn40.ext hE47).bu hB50).ext hE60).ext hE63).ext hE66).ext hE69).ext hE75).ext hE78).ext hE84).ext hE90).bu hB93).bu hB96).ext hE104).ext hE107).ext hE113).bu hB116)
 have h128 := (hB116.row ((((hB96.row hR92 (by omega)).ext hE104).ext hE107).ext hE113) (by omega))
 have h129 := ((((((((((((hn62.ext hE66).ext hE69).ext hE75).ext hE78).ext hE84).ext hE90).bu hB93).bu hB96).ext hE104).ext hE107).ext hE113).bu hB116)
 have h130 := (hB116.row (((hR95.ext hE104).ext hE107).ext hE113) (by omega))
 have h131 := ((((((((hn77.ext hE84).ext hE90).bu hB93).bu hB96).ext hE104).ext hE107).ext hE113).bu hB116)
 refine WC.weaken (r' := [(0, .bool false), (1, pt b8 0), (2, pt b14 0), (3, pt b20 0), (4, pt b43 0), (5, pt b80 0), (6, pt b86 0), (7, pt b109 0)]) (sr rfl (sr rfl (sr rfl (sr rfl (sr rfl (sr rfl (sr rfl (sr rfl (subReg_nil _))))))))) ?_
 refine WC.draw 88 [28, 29, 30, 31, 32, 33, 34, 35, 36, 37, 38, 39, 40, 41, 42, 43, 44, 45, 46, 47, 48, 49, 50, 51, 52, 53, 54, 55, 56, 57, 58, 59, 60, 61, 62, 63, 64, 65, 66, 67, 68, 69, 70, 71, 72, 73, 74, 75, 76, 77, 78, 79, 80, 81, 82, 83, 84, 85, 86, 87, 88, 89, 90, 91, 92, 93, 94, 95, 96, 97, 98, 99, 100, 101, 102, 103, 104, 105, 106, 107, 108, 109, 110, 111, 112, 113, 114, 115] [pc (.agg (tcells qd2 (.slice a4 qd2.subs.length cap4)).toArray), pc (.agg (tcells qd1 (.slice a1 qd1.subs.length cap1)).toArray), pc (.agg (tcells qd2 (.slice a4 qd2.subs.length cap4)).toArray), pnodes (fun _ => True) ([qd2, qd1, qd2]), pnode (fun _ => True) qd24, pnode (fun k => w117.heap.size ≤ k) qd5, ppair (fun _ => True) qd24 qd5, pc (.agg (tcells qd1 (.slice a1 qd1.subs.length cap1)).toArray), pc (.agg (zc 1 0 0 (.slice none 0 0)).toArray), pnodes (fun _ => True) ([qd1, qd6]), pnode (fun _ => True) qd14, pc (.agg (tcells qd1 (.slice a1 qd1.subs.length cap1)).toArray), pnode (fun _ => True) qd7, ppair (fun _ => True) qd14 qd7, pc (.agg (tcells qd10 (.slice a40 qd10.subs.length cap40)).toArray), pnode (fun _ => True) qd13, pc (.agg (tcells qd10 (.slice a40 qd10.subs.length cap40)).toArray), ppair (fun _ => True) qd13 qd10, pc (.agg (tcells qd2 (.slice a4 qd2.subs.length cap4)).toArray), pnode (fun _ => True) qd11, pc (.agg (tcells qd1 (.slice a1 qd1.subs.length cap1)).toArray), pnodes (fun _ => True) ([qd11, qd1]), pnode (fun _ => True) qd18, pnode (fun _ => True) qd19, pc (.agg (tcells qd1 (.slice a1 qd1.subs.length cap1)).toArray), pc (.agg (tcells qd2 (.slice a4 qd2.subs.length cap4)).toArray), pnode (fun _ => True) qd11, pnodes (fun _ => True) ([qd1, qd11]), pnode (fun _ => True) qd20, ppair (fun _ => True) qd19 qd20, pc (.agg (tcells qd1 (.slice a1 qd1.subs.length cap1)).toArray), pc (.agg (tcells qd10 (.slice a40 qd10.subs.length cap40)).toArray), pc (.agg (tcells qd2 (.slice a4 qd2.subs.length cap4)).toArray), pnodes (fun _ => True) ([qd1, qd10, qd2]), pnode (fun _ => True) qd27, pc (.agg (tcells qd1 (.slice a1 qd1.subs.length cap1)).toArray), pnode (fun _ => True) qd12, pc (.agg (tcells qd2 (.slice a4 qd2.subs.length cap4)).toArray), pnodes (fun _ => True) ([qd12, qd2]), pnode (fun _ => True) qd21, ppair (fun _ => True) qd27 qd21, pc (.agg (tcells qd9 (.slice a106 qd9.subs.length cap106)).toArray), pc (.agg (tcells qd2 (.slice a4 qd2.subs.length cap4)).toArray), pc (.agg (tcells qd2 (.slice a4 qd2.subs.length cap4)).toArray), pnodes (fun _ => True) ([qd9, qd2, qd2]), pnode (fun _ => True) qd25, pc (.agg (tcells qd9 (.slice a106 qd9.subs.length cap106)).toArray), pc (.agg (tcells qd2 (.slice a4 qd2.subs.length cap4)).toArray), pnodes (fun _ => True) ([qd9, qd2]), pnode (fun _ => True) qd15, ppair (fun _ => True) qd25 qd15, pc (.agg (tcells qd9 (.slice a106 qd9.subs.length cap106)).toArray), pc (.agg (tcells qd2 (.slice a4 qd2.subs.length cap4)).toArray), pnode (fun k => w117.heap.size ≤ k) qd3, pnodes (fun _ => True) ([qd9, qd2, qd3]), pnode (fun _ => True) qd26, pc (.agg (tcells qd9 (.slice a106 qd9.subs.length cap106)).toArray), pc (.agg (tcells qd2 (.slice a4 qd2.subs.length cap4)).toArray), pnode (fun k => w117.heap.size ≤ k) qd3, pnodes (fun _ => True) ([qd9, qd2, qd3]), pnode (fun _ => True) qd26, ppair (fun _ => True) qd26 qd26, pc (.agg (tcells qd16 (.slice a62 qd16.subs.length cap62)).toArray), pc (.agg (tcells qd17 (.slice a77 qd17.subs.length cap77)).toArray), pc (.agg (tcells qd16 (.slice a62 qd16.subs.length cap62)).toArray), pnodes (fun _ => True) ([qd16, qd17, qd16]), pnode (fun _ => True) qd28, pc (.agg (tcells qd16 (.slice a62 qd16.subs.length cap62)).toArray), pc (.agg (tcells qd17 (.slice a77 qd17.subs.length cap77)).toArray), pnodes (fun _ => True) ([qd16, qd17]), pnode (fun _ => True) qd22, ppair (fun _ => True) qd28 qd22, pc (.agg (tcells qd10 (.slice a40 qd10.subs.length cap40)).toArray), pc (.agg (tcells qd10 (.slice a40 qd10.subs.length cap40)).toArray), pnodes (fun _ => True) ([qd10, qd10]), pnode (fun _ => True) qd23, pc (.agg (tcells qd10 (.slice a40 qd10.subs.length cap40)).toArray), ppair (fun _ => True) qd23 qd10, pc (.agg (tcells qd1 (.slice a1 qd1.subs.length cap1)).toArray), pnode (fun _ => True) qd7, pnode (fun _ => True) qd8, pc (.agg (tcells qd1 (.slice a1 qd1.subs.length cap1)).toArray), pnode (fun _ => True) qd7, pnode (fun _ => True) qd8, ppair (fun _ => True) qd8 qd8, pprs (fun _ => True) 10 [qd24, qd5, qd14, qd7, qd13, qd10, qd19, qd20, qd27, qd21, qd25, qd15, qd26, qd26, qd28, qd22, qd23, qd10, qd8, qd8], pc (.int .i64 10), pc (.int .i64 0)] (by kernel_rfl) (by kernel_rfl) ⟨KW_pc _, KW_pc _, KW_pc _, KW_pnodes _ _, KW_pnode _ _, KW_pnode _ _, KW_ppair _ _ _, KW_pc _, KW_pc _, KW_pnodes _ _, KW_pnode _ _, KW_pc _, KW_pnode _ _, KW_ppair _ _ _, KW_pc _, KW_pnode _ _, KW_pc _, KW_ppair _ _ _, KW_pc _, KW_pnode _ _, KW_pc _, KW_pnodes _ _, KW_pnode _ _, KW_pnode _ _, KW_pc _, KW_pc _, KW_pnode _ _, KW_pnodes _ _, KW_pnode _ _, KW_ppair _ _ _, KW_pc _, KW_pc _, KW_pc _, KW_pnodes _ _, KW_pnode _ _, KW_pc _, KW_pnode _ _, KW_pc _, KW_pnodes _ _, KW_pnode _ _, KW_ppair _ _ _, KW_pc _, KW_pc _, KW_pc _, KW_pnodes _ _, KW_pnode _ _, KW_pc _, KW_pc _, KW_pnodes _ _, KW_pnode _ _, KW_ppair _ _ _, KW_pc _, KW_pc _, KW_pnode _ _, KW_pnodes _ _, KW_pnode _ _, KW_pc _, KW_pc _, KW_pnode _ _, KW_pnodes _ _, KW_pnode _ _, KW_ppair _ _ _, KW_pc _, KW_pc _, KW_pc _, KW_pnodes _ _, KW_pnode _ _, KW_pc _, KW_pc _, KW_pnodes _ _, KW_pnode _ _, KW_ppair _ _ _, KW_pc _, KW_pc _, KW_pnodes _ _, KW_pnode _ _, KW_pc _, KW_ppair _ _ _, KW_pc _, KW_pnode _ _, KW_pnode _ _, KW_pc _, KW_pnode _ _, KW_pnode _ _, KW_ppair _ _ _, KW_pprs _ _ _, KW_pc _, KW_pc _, trivial⟩ rfl rfl rfl (sc ?_ (sc ?_ (sc ?_ (sc ?_ (sc ?_ (sc ?_ (sc ?_ (sc ?_ (sc ?_ (sc ?_ (sc ?_ (sc ?_ (sc ?_ (sc ?_ (sc ?_ (sc ?_ (sc ?_ (sc ?_ (sc ?_ (sc ?_ (sc ?_ (sc ?_ (sc ?_ (sc ?_ (sc ?_ (sc ?_ (sc ?_ (sc ?_ (sc ?_ (sc ?_ (sc ?_ (sc ?_ (sc ?_ (sc ?_ (sc ?_ (sc ?_ (sc ?_ (sc ?_ (sc ?_ (sc ?_ (sc ?_ (sc ?_ (sc ?_ (sc ?_ (sc ?_ (sc ?_ (sc ?_ (sc ?_ (sc ?_ (sc ?_ (sc ?_ (sc ?_ (sc ?_ (sc ?_ (sc ?_ (sc ?_ (sc ?_ (sc ?_ (sc ?_ (sc ?_ (sc ?_ (sc ?_ (sc ?_ (sc ?_ (sc ?_ (sc ?_ (sc ?_ (sc ?_ (sc ?_ (sc ?_ (sc ?_ (sc ?_ (sc ?_ (sc ?_ (sc ?_ (sc ?_ (sc ?_ (sc ?_ (sc ?_ (sc ?_ (sc ?_ (sc ?_ (sc ?_ (sc ?_ (sc ?_ (sc ?_ (sc ?_ (sc ?_ (StepsOn.nil _))))))))))))))))))))))))))))))))))))))))))))))))))))))))))))))))))))))))))))))))))))))))) ?_
 ·intro σ β w1 hE1 hbi hk
  have hz1 := hE1.size
  refine ⟨[], (agree_nil _), ?_⟩
  refine WL.load_box rfl rfl rfl (h122.ext hE1) Ty.agg30 ?_
  exact dq hbi rfl
 ·intro σ β w1 hE1 hbi hk
  have hz1 := hE1.size
  refine ⟨[], (agree_nil _), ?_⟩
  refine WL.load_box rfl rfl rfl (h121.ext hE1) Ty.agg30 ?_
  exact dq hbi rfl
 ·intro σ β w1 hE1 hbi hk
  have hz1 := hE1.size
  refine ⟨[], (agree_nil _), ?_⟩
  refine WL.load_box rfl rfl rfl (h122.ext hE1) Ty.agg30 ?_
  exact dq hbi rfl
 ·intro σ β w1 hE1 hbi hk
  have hz1 := hE1.size
  obtain ⟨_, hv152, rfl⟩ := kn hk 0 rfl rfl
  obtain ⟨_, hv153, rfl⟩ := kn hk 1 rfl rfl
  obtain ⟨_, hv154, rfl⟩ := kn hk 2 rfl rfl
  refine ⟨[(28, .agg (tcells qd2 (.slice a4 qd2.subs.length cap4)).toArray), (29, .agg (tcells qd1 (.slice a1 qd1.subs.length cap1)).toArray), (30, .agg (tcells qd2 (.slice a4 qd2.subs.length cap4)).toArray)], (ag hv152 (ag hv153 (ag hv154 (agree_nil _)))), ?_⟩
  refine WL.buildSlice (vs := [.agg (tcells qd2 (.slice a4 qd2.subs.length cap4)).toArray, .agg (tcells qd1 (.slice a1 qd1.subs.length cap1)).toArray, .agg (tcells qd2 (.slice a4 qd2.subs.length cap4)).toArray]) (cells := (tcells qd2 (.slice a4 qd2.subs.length cap4) ++ tcells qd1 (.slice a1 qd1.subs.length cap1) ++ tcells qd2 (.slice a4 qd2.subs.length cap4))) rfl rfl Ty.slice24 Ty.zero30 rfl rfl rfl rfl rfl rfl (fun b155 w160 hb156 hE159 hs157 hR158 => ?_)
  have hts155 := (NodesV.lit (n := 3) (ts := [qd2, qd1, qd2]) hR158 (RowsL.cons ((h123.ext hE1).ext hE159) (RowsL.cons ((h118.ext hE1).ext hE159) (RowsL.cons ((h123.ext hE1).ext hE159) (RowsL.nil' _)))) rfl rfl (by decide)).lt
  exact dqE hbi hE159 ⟨_, _, rfl, (hts155.dom (by intro k h1; refine ⟨trivial, ?_, h1.2⟩; replace h1 := h1.1; intro x hxm; have hi := hbi.hi x hxm; have lo := hbi.lo x hxm; (try dsimp only at h1); (repeat' first | (guard_hyp h1 : _ ∨ _; refine Or.elim h1 (fun h1 => ?_) (fun h1 => ?_)) | (guard_hyp h1 : _ ∧ _; have hx := h1.2; replace h1 := h1.1)) <;> first | contradiction | omega | exact hx.1 x hxm))⟩
 ·intro σ β w1 hE1 hbi hk
  have hz1 := hE1.size
  obtain ⟨_, hv152, a152, cap152, rfl, hts152⟩ := kn hk 3 rfl rfl
  have hts152 := hts152.lt
  have hlen152 := hts152.len
  refine ⟨[(31, .slice a152 (([qd2, qd1, qd2]).length) cap152)], (ag hv152 (agree_nil _)), ?_⟩
  refine WL.call rfl rfl rfl Ty.ent19 (node11_ok _ _ 4 _ _ ([qd2, qd1, qd2]) hts152) ?_
  rintro _ w155 ⟨l153, rfl, hr153, hE154⟩
  have hzhE154 := hE154.size
  refine ⟨_, rfl, ?_⟩
  have hn153 := hr153.lt
  obtain ⟨a153, cap153, rfl, hts153, hlen153⟩ := hn153.op2
  exact dqE hbi hE154 ⟨_, rfl, (hr153.lt.dom (by intro k h1; refine ⟨trivial, ?_, h1.2⟩; replace h1 := h1.1; intro x hxm; have hi := hbi.hi x hxm; have lo := hbi.lo x hxm; (try dsimp only at h1); (repeat' first | (guard_hyp h1 : _ ∨ _; refine Or.elim h1 (fun h1 => ?_) (fun h1 => ?_)) | (guard_hyp h1 : _ ∧ _; have hx := h1.2; replace h1 := h1.1)) <;> first | contradiction | omega | exact hx.1 x hxm))⟩
 ·intro σ β w1 hE1 hbi hk
  have hz1 := hE1.size
  refine ⟨[], (agree_nil _), ?_⟩
  refine WL.call rfl rfl rfl Ty.ent12 (class11_ok _ ([97, 98]) (by decide)) ?_
  rintro _ w154 ⟨l152, rfl, hr152, hE153⟩
  have hzhE153 := hE153.size
  refine ⟨_, rfl, ?_⟩
  have hn152 := hr152.lt
  obtain ⟨a152, cap152, rfl, hts152, hlen152⟩ := hn152.op2
  exact dqE hbi hE153 ⟨_, rfl, (hr152.off0 hbi (fun k hk => Nat.le_trans hE1.size hk))⟩
 ·intro σ β w1 hE1 hbi hk
  have hz1 := hE1.size
  obtain ⟨_, hv152, l152, rfl, hn152⟩ := kn hk 4 rfl rfl
  have hn152 := hn152.lt
  obtain ⟨a152, cap152, rfl, hts152, hlen152⟩ := hn152.op2
  obtain ⟨_, hv153, l153, rfl, hn153⟩ := kn hk 5 rfl rfl
  have hn153 := hn153.lt
  obtain ⟨a153, cap153, rfl, hts153, hlen153⟩ := hn153.op2
  refine ⟨[(32, .agg (tcells qd24 (.slice a152 qd24.subs.length cap152)).toArray), (33, .agg (tcells qd5 (.slice a153 qd5.subs.length cap153)).toArray)], (ag hv152 (ag hv153 (agree_nil _))), ?_⟩
  refine WL.build (l := (tcells qd24 (.slice a152 qd24.subs.length cap152) ++ tcells qd5 (.slice a153 qd5.subs.length cap153))) rfl rfl Ty.zero46 Ty.st46 ⟨⟨rfl, rfl⟩, (by kernel_rfl)⟩ ?_
  exact dq hbi ⟨(tcells qd24 (.slice a152 qd24.subs.length cap152)), (tcells qd5 (.slice a153 qd5.subs.length cap153)), rfl, (hn152.lt.dom (by intro k h1; refine ⟨trivial, ?_, h1.2⟩; replace h1 := h1.1; intro x hxm; have hi := hbi.hi x hxm; have lo := hbi.lo x hxm; (try dsimp only at h1); (repeat' first | (guard_hyp h1 : _ ∨ _; refine Or.elim h1 (fun h1 => ?_) (fun h1 => ?_)) | (guard_hyp h1 : _ ∧ _; have hx := h1.2; replace h1 := h1.1)) <;> first | contradiction | omega | exact hx.1 x hxm)), (hn153.lt.dom (by intro k h1; refine ⟨trivial, ?_, h1.2⟩; replace h1 := h1.1; intro x hxm; have hi := hbi.hi x hxm; have lo := hbi.lo x hxm; (try dsimp only at h1); (repeat' first | (guard_hyp h1 : _ ∨ _; refine Or.elim h1 (fun h1 => ?_) (fun h1 => ?_)) | (guard_hyp h1 : _ ∧ _; have hx := h1.2; replace h1 := h1.1)) <;> first | contradiction | omega | exact hx.1 x hxm))⟩
 ·intro σ β w1 hE1 hbi hk
  have hz1 := hE1.size
  refine ⟨[], (agree_nil _), ?_⟩
  refine WL.load_box rfl rfl rfl (h121.ext hE1) Ty.agg30 ?_
  exact dq hbi rfl
 ·intro σ β w1 hE1 hbi hk
  have hz1 := hE1.size
  refine ⟨[], (agree_nil _), ?_⟩
  refine WL.load_box rfl rfl rfl (h124.ext hE1) Ty.agg30 ?_
  exact dq hbi rfl
 ·intro σ β w1 hE1 hbi hk
  have hz1 := hE1.size
  obtain ⟨_, hv152, rfl⟩ := kn hk 7 rfl rfl
  obtain ⟨_, hv153, rfl⟩ := kn hk 8 rfl rfl
  refine ⟨[(35, .agg (tcells qd1 (.slice a1 qd1.subs.length cap1)).toArray), (36, .agg (zc 1 0 0 (.slice none 0 0)).toArray)], (ag hv152 (ag hv153 (agree_nil _))), ?_⟩
  refine WL.buildSlice (vs := [.agg (tcells qd1 (.slice a1 qd1.subs.length cap1)).toArray, .agg (zc 1 0 0 (.slice none 0 0)).toArray]) (cells := (tcells qd1 (.slice a1 qd1.subs.length cap1) ++ zc 1 0 0 (.slice none 0 0))) rfl rfl Ty.slice24 Ty.zero30 rfl rfl rfl rfl rfl rfl (fun b154 w159 hb155 hE158 hs156 hR157 => ?_)
  have hts154 := (NodesV.lit (n := 2) (ts := [qd1, qd6]) hR157 (RowsL.cons ((h118.ext hE1).ext hE158) (RowsL.cons ((h125.ext hE1).ext hE158) (RowsL.nil' _))) rfl rfl (by decide)).lt
  exact dqE hbi hE158 ⟨_, _, rfl, (hts154.dom (by intro k h1; refine ⟨trivial, ?_, h1.2⟩; replace h1 := h1.1; intro x hxm; have hi := hbi.hi x hxm; have lo := hbi.lo x hxm; (try dsimp only at h1); (repeat' first | (guard_hyp h1 : _ ∨ _; refine Or.elim h1 (fun h1 => ?_) (fun h1 => ?_)) | (guard_hyp h1 : _ ∧ _; have hx := h1.2; replace h1 := h1.1)) <;> first | contradiction | omega | exact hx.1 x hxm))⟩
 ·intro σ β w1 hE1 hbi hk
  have hz1 := hE1.size
  obtain ⟨_, hv152, a152, cap152, rfl, hts152⟩ := kn hk 9 rfl rfl
  have hts152 := hts152.lt
  have hlen152 := hts152.len
  refine ⟨[(37, .slice a152 (([qd1, qd6]).length) cap152)], (ag hv152 (agree_nil _)), ?_⟩
  refine WL.call rfl rfl rfl Ty.ent19 (node11_ok _ _ 4 _ _ ([qd1, qd6]) hts152) ?_
  rintro _ w155 ⟨l153, rfl, hr153, hE154⟩
  have hzhE154 := hE154.size
  refine ⟨_, rfl, ?_⟩
  have hn153 := hr153.lt
  obtain ⟨a153, cap153, rfl, hts153, hlen153⟩ := hn153.op2
  exact dqE hbi hE154 ⟨_, rfl, (hr153.lt.dom (by intro k h1; refine ⟨trivial, ?_, h1.2⟩; replace h1 := h1.1; intro x hxm; have hi := hbi.hi x hxm; have lo := hbi.lo x hxm; (try dsimp only at h1); (repeat' first | (guard_hyp h1 : _ ∨ _; refine Or.elim h1 (fun h1 => ?_) (fun h1 => ?_)) | (guard_hyp h1 : _ ∧ _; have hx := h1.2; replace h1 := h1.1)) <;> first | contradiction | omega | exact hx.1 x hxm))⟩
 ·intro σ β w1 hE1 hbi hk
  have hz1 := hE1.size
  refine ⟨[], (agree_nil _), ?_⟩
  refine WL.load_box rfl rfl rfl (h121.ext hE1) Ty.agg30 ?_
  exact dq hbi rfl
 ·intro σ β w1 hE1 hbi hk
  have hz1 := hE1.size
  obtain ⟨_, hv152, rfl⟩ := kn hk 11 rfl rfl
  refine ⟨[(39, .agg (tcells qd1 (.slice a1 qd1.subs.length cap1)).toArray)], (ag hv152 (agree_nil _)), ?_⟩
  refine WL.call rfl rfl rfl Ty.ent18 (rep11_ok _ _ _ qd1 0 1 (h118.ext hE1)) ?_
  rintro _ w155 ⟨l153, rfl, hr153, hE154⟩
  have hzhE154 := hE154.size
  refine ⟨_, rfl, ?_⟩
  have hn153 := hr153.lt
  obtain ⟨a153, cap153, rfl, hts153, hlen153⟩ := hn153.op2
  exact dqE hbi hE154 ⟨_, rfl, (hr153.lt.dom (by intro k h1; refine ⟨trivial, ?_, h1.2⟩; replace h1 := h1.1; intro x hxm; have hi := hbi.hi x hxm; have lo := hbi.lo x hxm; (try dsimp only at h1); (repeat' first | (guard_hyp h1 : _ ∨ _; refine Or.elim h1 (fun h1 => ?_) (fun h1 => ?_)) | (guard_hyp h1 : _ ∧ _; have hx := h1.2; replace h1 := h1.1)) <;> first | contradiction | omega | exact hx.1 x hxm))⟩
 ·intro σ β w1 hE1 hbi hk
  have hz1 := hE1.size
  obtain ⟨_, hv152, l152, rfl, hn152⟩ := kn hk 10 rfl rfl
  have hn152 := hn152.lt
  obtain ⟨a152, cap152, rfl, hts152, hlen152⟩ := hn152.op2
  obtain ⟨_, hv153, l153, rfl, hn153⟩ := kn hk 12 rfl rfl
  have hn153 := hn153.lt
  obtain ⟨a153, cap153, rfl, hts153, hlen153⟩ := hn153.op2
  refine ⟨[(38, .agg (tcells qd14 (.slice a152 qd14.subs.length cap152)).toArray), (40, .agg (tcells qd7 (.slice a153 qd7.subs.length cap153)).toArray)], (ag hv152 (ag hv153 (agree_nil _))), ?_⟩
  refine WL.build (l := (tcells qd14 (.slice a152 qd14.subs.length cap152) ++ tcells qd7 (.slice a153 qd7.subs.length cap153))) rfl rfl Ty.zero46 Ty.st46 ⟨⟨rfl, rfl⟩, (by kernel_rfl)⟩ ?_
  exact dq hbi ⟨(tcells qd14 (.slice a152 qd14.subs.length cap152)), (tcells qd7 (.slice a153 qd7.subs.length cap153)), rfl, (hn152.lt.dom (by intro k h1; refine ⟨trivial, ?_, h1.2⟩; replace h1 := h1.1; intro x hxm; have hi := hbi.hi x hxm; have lo := hbi.lo x hxm; (try dsimp only at h1); (repeat' first | (guard_hyp h1 : _ ∨ _; refine Or.elim h1 (fun h1 => ?_) (fun h1 => ?_)) | (guard_hyp h1 : _ ∧ _; have hx := h1.2; replace h1 := h1.1)) <;> first | contradiction | omega | exact hx.1 x hxm)), (hn153.lt.dom (by intro k h1; refine ⟨trivial, ?_, h1.2⟩; replace h1 := h1.1; intro x hxm; have hi := hbi.hi x hxm; have lo := hbi.lo x hxm; (try dsimp only at h1); (repeat' first | (guard_hyp h1 : _ ∨ _; refine Or.elim h1 (fun h1 => ?_) (fun h1 => ?_)) | (guard_hyp h1 : _ ∧ _; have hx := h1.2; replace h1 := h1.1)) <;> first | contradiction | omega | exact hx.1 x hxm))⟩
 ·intro σ β w1 hE1 hbi hk
  have hz1 := hE1.size
  refine ⟨[], (agree_nil _), ?_⟩
  refine WL.load_box rfl rfl rfl (h126.ext hE1) Ty.agg30 ?_
  exact dq hbi rfl
 ·intro σ β w1 hE1 hbi hk
  have hz1 := hE1.size
  obtain ⟨_, hv152, rfl⟩ := kn hk 14 rfl rfl
  refine ⟨[(42, .agg (tcells qd10 (.slice a40 qd10.subs.length cap40)).toArray)], (ag hv152 (agree_nil _)), ?_⟩
  refine WL.call rfl rfl rfl Ty.ent18 (rep11_ok _ _ _ qd10 1 (-1) (h127.ext hE1)) ?_
  rintro _ w155 ⟨l153, rfl, hr153, hE154⟩
  have hzhE154 := hE154.size
  refine ⟨_, rfl, ?_⟩
  have hn153 := hr153.lt
  obtain ⟨a153, cap153, rfl, hts153, hlen153⟩ := hn153.op2
  exact dqE hbi hE154 ⟨_, rfl, (hr153.lt.dom (by intro k h1; refine ⟨trivial, ?_, h1.2⟩; replace h1 := h1.1; intro x hxm; have hi := hbi.hi x hxm; have lo := hbi.lo x hxm; (try dsimp only at h1); (repeat' first | (guard_hyp h1 : _ ∨ _; refine Or.elim h1 (fun h1 => ?_) (fun h1 => ?_)) | (guard_hyp h1 : _ ∧ _; have hx := h1.2; replace h1 := h1.1)) <;> first | contradiction | omega | exact hx.1 x hxm))⟩
 ·intro σ β w1 hE1 hbi hk
  have hz1 := hE1.size
  refine ⟨[], (agree_nil _), ?_⟩
  refine WL.load_box rfl rfl rfl (h126.ext hE1) Ty.agg30 ?_
  exact dq hbi rfl
 ·intro σ β w1 hE1 hbi hk
  have hz1 := hE1.size
  obtain ⟨_, hv152, l152, rfl, hn152⟩ := kn hk 15 rfl rfl
  have hn152 := hn152.lt
  obtain ⟨a152, cap152, rfl, hts152, hlen152⟩ := hn152.op2
  obtain ⟨_, hv153, rfl⟩ := kn hk 16 rfl rfl
  refine ⟨[(43, .agg (tcells qd13 (.slice a152 qd13.subs.length cap152)).toArray), (44, .agg (tcells qd10 (.slice a40 qd10.subs.length cap40)).toArray)], (ag hv152 (ag hv153 (agree_nil _))), ?_⟩
  refine WL.build (l := (tcells qd13 (.slice a152 qd13.subs.length cap152) ++ tcells qd10 (.slice a40 qd10.subs.length cap40))) rfl rfl Ty.zero46 Ty.st46 ⟨⟨rfl, rfl⟩, (by kernel_rfl)⟩ ?_
  exact dq hbi ⟨(tcells qd13 (.slice a152 qd13.subs.length cap152)), (tcells qd10 (.slice a40 qd10.subs.length cap40)), rfl, (hn152.lt.dom (by intro k h1; refine ⟨trivial, ?_, h1.2⟩; replace h1 := h1.1; intro x hxm; have hi := hbi.hi x hxm; have lo := hbi.lo x hxm; (try dsimp only at h1); (repeat' first | (guard_hyp h1 : _ ∨ _; refine Or.elim h1 (fun h1 => ?_) (fun h1 => ?_)) | (guard_hyp h1 : _ ∧ _; have hx := h1.2; replace h1 := h1.1)) <;> first | contradiction | omega | exact hx.1 x hxm)), ((h127.ext hE1).lt.dom (by intro k h1; refine ⟨trivial, ?_, h1.2⟩; replace h1 := h1.1; intro x hxm; have hi := hbi.hi x hxm; have lo := hbi.lo x hxm; (try dsimp only at h1); (repeat' first | (guard_hyp h1 : _ ∨ _; refine Or.elim h1 (fun h1 => ?_) (fun h1 => ?_)) | (guard_hyp h1 : _ ∧ _; have hx := h1.2; replace h1 := h1.1)) <;> first | contradiction | omega | exact hx.1 x hxm))⟩
 ·intro σ β w1 hE1 hbi hk
  have hz1 := hE1.size
  refine ⟨[], (agree_nil _), ?_⟩
  refine WL.load_box rfl rfl rfl (h122.ext hE1) Ty.agg30 ?_
  exact dq hbi rfl
 ·intro σ β w1 hE1 hbi hk
  have hz1 := hE1.size
  obtain ⟨_, hv152, rfl⟩ := kn hk 18 rfl rfl
  refine ⟨[(46, .agg (tcells qd2 (.slice a4 qd2.subs.length cap4)).toArray)], (ag hv152 (agree_nil _)), ?_⟩
  refine WL.call rfl rfl rfl Ty.ent18 (rep11_ok _ _ _ qd2 0 (-1) (h123.ext hE1)) ?_
  rintro _ w155 ⟨l153, rfl, hr153, hE154⟩
  have hzhE154 := hE154.size
  refine ⟨_, rfl, ?_⟩
  have hn153 := hr153.lt
  obtain ⟨a153, cap153, rfl, hts153, hlen153⟩ := hn153.op2
  exact dqE hbi hE154 ⟨_, rfl, (hr153.lt.dom (by intro k h1; refine ⟨trivial, ?_, h1.2⟩; replace h1 := h1.1; intro x hxm; have hi := hbi.hi x hxm; have lo := hbi.lo x hxm; (try dsimp only at h1); (repeat' first | (guard_hyp h1 : _ ∨ _; refine Or.elim h1 (fun h1 => ?_) (fun h1 => ?_)) | (guard_hyp h1 : _ ∧ _; have hx := h1.2; replace h1 := h1.1)) <;> first | contradiction | omega | exact hx.1 x hxm))⟩
 ·intro σ β w1 hE1 hbi hk
  have hz1 := hE1.size
  refine ⟨[], (agree_nil _), ?_⟩
  refine WL.load_box rfl rfl rfl (h121.ext hE1) Ty.agg30 ?_
  exact dq hbi rfl
 ·intro σ β w1 hE1 hbi hk
  have hz1 := hE1.size
  obtain ⟨_, hv152, l152, rfl, hn152⟩ := kn hk 19 rfl rfl
  have hn152 := hn152.lt
  obtain ⟨a152, cap152, rfl, hts152, hlen152⟩ := hn152.op2
  obtain ⟨_, hv153, rfl⟩ := kn hk 20 rfl rfl
  refine ⟨[(47, .agg (tcells qd11 (.slice a152 qd11.subs.length cap152)).toArray), (48, .agg (tcells qd1 (.slice a1 qd1.subs.length cap1)).toArray)], (ag hv152 (ag hv153 (agree_nil _))), ?_⟩
  refine WL.buildSlice (vs := [.agg (tcells qd11 (.slice a152 qd11.subs.length cap152)).toArray, .agg (tcells qd1 (.slice a1 qd1.subs.length cap1)).toArray]) (cells := (tcells qd11 (.slice a152 qd11.subs.length cap152) ++ tcells qd1 (.slice a1 qd1.subs.length cap1))) rfl rfl Ty.slice24 Ty.zero30 rfl rfl rfl rfl rfl rfl (fun b154 w159 hb155 hE158 hs156 hR157 => ?_)
  have hts154 := (NodesV.lit (n := 2) (ts := [qd11, qd1]) hR157 (RowsL.cons (hn152.ext hE158) (RowsL.cons ((h118.ext hE1).ext hE158) (RowsL.nil' _))) rfl rfl (by decide)).lt
  exact dqE hbi hE158 ⟨_, _, rfl, (hts154.dom (by intro k h1; refine ⟨trivial, ?_, h1.2⟩; replace h1 := h1.1; intro x hxm; have hi := hbi.hi x hxm; have lo := hbi.lo x hxm; (try dsimp only at h1); (repeat' first | (guard_hyp h1 : _ ∨ _; refine Or.elim h1 (fun h1 => ?_) (fun h1 => ?_)) | (guard_hyp h1 : _ ∧ _; have hx := h1.2; replace h1 := h1.1)) <;> first | contradiction | omega | exact hx.1 x hxm))⟩
 ·intro σ β w1 hE1 hbi hk
  have hz1 := hE1.size
  obtain ⟨_, hv152, a152, cap152, rfl, hts152⟩ := kn hk 21 rfl rfl
  have hts152 := hts152.lt
  have hlen152 := hts152.len
  refine ⟨[(49, .slice a152 (([qd11, qd1]).length) cap152)], (ag hv152 (agree_nil _)), ?_⟩
  refine WL.call rfl rfl rfl Ty.ent19 (node11_ok _ _ 4 _ _ ([qd11, qd1]) hts152) ?_
  rintro _ w155 ⟨l153, rfl, hr153, hE154⟩
  have hzhE154 := hE154.size
  refine ⟨_, rfl, ?_⟩
  have hn153 := hr153.lt
  obtain ⟨a153, cap153, rfl, hts153, hlen153⟩ := hn153.op2
  exact dqE hbi hE154 ⟨_, rfl, (hr153.lt.dom (by intro k h1; refine ⟨trivial, ?_, h1.2⟩; replace h1 := h1.1; intro x hxm; have hi := hbi.hi x hxm; have lo := hbi.lo x hxm; (try dsimp only at h1); (repeat' first | (guard_hyp h1 : _ ∨ _; refine Or.elim h1 (fun h1 => ?_) (fun h1 => ?_)) | (guard_hyp h1 : _ ∧ _; have hx := h1.2; replace h1 := h1.1)) <;> first | contradiction | omega | exact hx.1 x hxm))⟩
 ·intro σ β w1 hE1 hbi hk
  have hz1 := hE1.size
  obtain ⟨_, hv152, l152, rfl, hn152⟩ := kn hk 22 rfl rfl
  have hn152 := hn152.lt
  obtain ⟨a152, cap152, rfl, hts152, hlen152⟩ := hn152.op2
  refine ⟨[(50, .agg (tcells qd18 (.slice a152 qd18.subs.length cap152)).toArray)], (ag hv152 (agree_nil _)), ?_⟩
  refine WL.call rfl rfl rfl Ty.ent18 (rep11_ok _ _ _ qd18 0 1 hn152) ?_
  rintro _ w155 ⟨l153, rfl, hr153, hE154⟩
  have hzhE154 := hE154.size
  refine ⟨_, rfl, ?_⟩
  have hn153 := hr153.lt
  obtain ⟨a153, cap153, rfl, hts153, hlen153⟩ := hn153.op2
  exact dqE hbi hE154 ⟨_, rfl, (hr153.lt.dom (by intro k h1; refine ⟨trivial, ?_, h1.2⟩; replace h1 := h1.1; intro x hxm; have hi := hbi.hi x hxm; have lo := hbi.lo x hxm; (try dsimp only at h1); (repeat' first | (guard_hyp h1 : _ ∨ _; refine Or.elim h1 (fun h1 => ?_) (fun h1 => ?_)) | (guard_hyp h1 : _ ∧ _; have hx := h1.2; replace h1 := h1.1)) <;> first | contradiction | omega | exact hx.1 x hxm))⟩
 ·intro σ β w1 hE1 hbi hk
  have hz1 := hE1.size
  refine ⟨[], (agree_nil _), ?_⟩
  refine WL.load_box rfl rfl rfl (h121.ext hE1) Ty.agg30 ?_
  exact dq hbi rfl
 ·intro σ β w1 hE1 hbi hk
  have hz1 := hE1.size
  refine ⟨[], (agree_nil _), ?_⟩
  refine WL.load_box rfl rfl rfl (h122.ext hE1) Ty.agg30 ?_
  exact dq hbi rfl
 ·intro σ β w1 hE1 hbi hk
  have hz1 := hE1.size
  obtain ⟨_, hv152, rfl⟩ := kn hk 25 rfl rfl
  refine ⟨[(53, .agg (tcells qd2 (.slice a4 qd2.subs.length cap4)).toArray)], (ag hv152 (agree_nil _)), ?_⟩
  refine WL.call rfl rfl rfl Ty.ent18 (rep11_ok _ _ _ qd2 0 (-1) (h123.ext hE1)) ?_
  rintro _ w155 ⟨l153, rfl, hr153, hE154⟩
  have hzhE154 := hE154.size
  refine ⟨_, rfl, ?_⟩
  have hn153 := hr153.lt
  obtain ⟨a153, cap153, rfl, hts153, hlen153⟩ := hn153.op2
  exact dqE hbi hE154 ⟨_, rfl, (hr153.lt.dom (by intro k h1; refine ⟨trivial, ?_, h1.2⟩; replace h1 := h1.1; intro x hxm; have hi := hbi.hi x hxm; have lo := hbi.lo x hxm; (try dsimp only at h1); (repeat' first | (guard_hyp h1 : _ ∨ _; refine Or.elim h1 (fun h1 => ?_) (fun h1 => ?_)) | (guard_hyp h1 : _ ∧ _; have hx := h1.2; replace h1 := h1.1)) <;> first | contradiction | omega | exact hx.1 x hxm))⟩
 ·intro σ β w1 hE1 hbi hk
  have hz1 := hE1.size
  obtain ⟨_, hv152, rfl⟩ := kn hk 24 rfl rfl
  obtain ⟨_, hv153, l153, rfl, hn153⟩ := kn hk 26 rfl rfl
  have hn153 := hn153.lt
  obtain ⟨a153, cap153, rfl, hts153, hlen153⟩ := hn153.op2
  refine ⟨[(52, .agg (tcells qd1 (.slice a1 qd1.subs.length cap1)).toArray), (54, .agg (tcells qd11 (.slice a153 qd11.subs.length cap153)).toArray)], (ag hv152 (ag hv153 (agree_nil _))), ?_⟩
  refine WL.buildSlice (vs := [.agg (tcells qd1 (.slice a1 qd1.subs.length cap1)).toArray, .agg (tcells qd11 (.slice a153 qd11.subs.length cap153)).toArray]) (cells := (tcells qd1 (.slice a1 qd1.subs.length cap1) ++ tcells qd11 (.slice a153 qd11.subs.length cap153))) rfl rfl Ty.slice24 Ty.zero30 rfl rfl rfl rfl rfl rfl (fun b154 w159 hb155 hE158 hs156 hR157 => ?_)
  have hts154 := (NodesV.lit (n := 2) (ts := [qd1, qd11]) hR157 (RowsL.cons ((h118.ext hE1).ext hE158) (RowsL.cons (hn153.ext hE158) (RowsL.nil' _))) rfl rfl (by decide)).lt
  exact dqE hbi hE158 ⟨_, _, rfl, (hts154.dom (by intro k h1; refine ⟨trivial, ?_, h1.2⟩; replace h1 := h1.1; intro x hxm; have hi := hbi.hi x hxm; have lo := hbi.lo x hxm; (try dsimp only at h1); (repeat' first | (guard_hyp h1 : _ ∨ _; refine Or.elim h1 (fun h1 => ?_) (fun h1 => ?_)) | (guard_hyp h1 : _ ∧ _; have hx := h1.2; replace h1 := h1.1)) <;> first | contradiction | omega | exact hx.1 x hxm))⟩
 ·intro σ β w1 hE1 hbi hk
  have hz1 := hE1.size
  obtain ⟨_, hv152, a152, cap152, rfl, hts152⟩ := kn hk 27 rfl rfl
  have hts152 := hts152.lt
  have hlen152 := hts152.len
  refine ⟨[(55, .slice a152 (([qd1, qd11]).length) cap152)], (ag hv152 (agree_nil _)), ?_⟩
  refine WL.call rfl rfl rfl Ty.ent19 (node11_ok _ _ 4 _ _ ([qd1, qd11]) hts152) ?_
  rintro _ w155 ⟨l153, rfl, hr153, hE154⟩
  have hzhE154 := hE154.size
  refine ⟨_, rfl, ?_⟩
  have hn153 := hr153.lt
  obtain ⟨a153, cap153, rfl, hts153, hlen153⟩ := hn153.op2
  exact dqE hbi hE154 ⟨_, rfl, (hr153.lt.dom (by intro k h1; refine ⟨trivial, ?_, h1.2⟩; replace h1 := h1.1; intro x hxm; have hi := hbi.hi x hxm; have lo := hbi.lo x hxm; (try dsimp only at h1); (repeat' first | (guard_hyp h1 : _ ∨ _; refine Or.elim h1 (fun h1 => ?_) (fun h1 => ?_)) | (guard_hyp h1 : _ ∧ _; have hx := h1.2; replace h1 := h1.1)) <;> first | contradiction | omega | exact hx.1 x hxm))⟩
 ·intro σ β w1 hE1 hbi hk
  have hz1 := hE1.size
  obtain ⟨_, hv152, l152, rfl, hn152⟩ := kn hk 23 rfl rfl
  have hn152 := hn152.lt
  obtain ⟨a152, cap152, rfl, hts152, hlen152⟩ := hn152.op2
  obtain ⟨_, hv153, l153, rfl, hn153⟩ := kn hk 28 rfl rfl
  have hn153 := hn153.lt
  obtain ⟨a153, cap153, rfl, hts153, hlen153⟩ := hn153.op2
  refine ⟨[(51, .agg (tcells qd19 (.slice a152 qd19.subs.length cap152)).toArray), (56, .agg (tcells qd20 (.slice a153 qd20.subs.length cap153)).toArray)], (ag hv152 (ag hv153 (agree_nil _))), ?_⟩
  refine WL.build (l := (tcells qd19 (.slice a152 qd19.subs.length cap152) ++ tcells qd20 (.slice a153 qd20.subs.length cap153))) rfl rfl Ty.zero46 Ty.st46 ⟨⟨rfl, rfl⟩, (by kernel_rfl)⟩ ?_
  exact dq hbi ⟨(tcells qd19 (.slice a152 qd19.subs.length cap152)), (tcells qd20 (.slice a153 qd20.subs.length cap153)), rfl, (hn152.lt.dom (by intro k h1; refine ⟨trivial, ?_, h1.2⟩; replace h1 := h1.1; intro x hxm; have hi := hbi.hi x hxm; have lo := hbi.lo x hxm; (try dsimp only at h1); (repeat' first | (guard_hyp h1 : _ ∨ _; refine Or.elim h1 (fun h1 => ?_) (fun h1 => ?_)) | (guard_hyp h1 : _ ∧ _; have hx := h1.2; replace h1 := h1.1)) <;> first | contradiction | omega | exact hx.1 x hxm)), (hn153.lt.dom (by intro k h1; refine ⟨trivial, ?_, h1.2⟩; replace h1 := h1.1; intro x hxm; have hi := hbi.hi x hxm; have lo := hbi.lo x hxm; (try dsimp only at h1); (repeat' first | (guard_hyp h1 : _ ∨ _; refine Or.elim h1 (fun h1 => ?_) (fun h1 => ?_)) | (guard_hyp h1 : _ ∧ _; have hx := h1.2; replace h1 := h1.1)) <;> first | contradiction | omega | exact hx.1 x hxm))⟩
 ·intro σ β w1 hE1 hbi hk
  have hz1 := hE1.size
  refine ⟨[], (agree_nil _), ?_⟩
  refine WL.load_box rfl rfl rfl (h121.ext hE1) Ty.agg30 ?_
  exact dq hbi rfl
 ·intro σ β w1 hE1 hbi hk
  have hz1 := hE1.size
  refine ⟨[], (agree_nil _), ?_⟩
  refine WL.load_box rfl rfl rfl (h126.ext hE1) Ty.agg30 ?_
  exact dq hbi rfl
 ·intro σ β w1 hE1 hbi hk
  have hz1 := hE1.size
  refine ⟨[], (agree_nil _), ?_⟩
  refine WL.load_box rfl rfl rfl (h122.ext hE1) Ty.agg30 ?_
  exact dq hbi rfl
 ·intro σ β w1 hE1 hbi hk
  have hz1 := hE1.size
  obtain ⟨_, hv152, rfl⟩ := kn hk 30 rfl rfl
  obtain ⟨_, hv153, rfl⟩ := kn hk 31 rfl rfl
  obtain ⟨_, hv154, rfl⟩ := kn hk 32 rfl rfl
  refine ⟨[(58, .agg (tcells qd1 (.slice a1 qd1.subs.length cap1)).toArray), (59, .agg (tcells qd10 (.slice a40 qd10.subs.length cap40)).toArray), (60, .agg (tcells qd2 (.slice a4 qd2.subs.length cap4)).toArray)], (ag hv152 (ag hv153 (ag hv154 (agree_nil _)))), ?_⟩
  refine WL.buildSlice (vs := [.agg (tcells qd1 (.slice a1 qd1.subs.length cap1)).toArray, .agg (tcells qd10 (.slice a40 qd10.subs.length cap40)).toArray, .agg (tcells qd2 (.slice a4 qd2.subs.length cap4)).toArray]) (cells := (tcells qd1 (.slice a1 qd1.subs.length cap1) ++ tcells qd10 (.slice a40 qd10.subs.length cap40) ++ tcells qd2 (.slice a4 qd2.subs.length cap4))) rfl rfl Ty.slice24 Ty.zero30 rfl rfl rfl rfl rfl rfl (fun b155 w160 hb156 hE159 hs157 hR158 => ?_)
  have hts155 := (NodesV.lit (n := 3) (ts := [qd1, qd10, qd2]) hR158 (RowsL.cons ((h118.ext hE1).ext hE159) (RowsL.cons ((h127.ext hE1).ext hE159) (RowsL.cons ((h123.ext hE1).ext hE159) (RowsL.nil' _)))) rfl rfl (by decide)).lt
  exact dqE hbi hE159 ⟨_, _, rfl, (hts155.dom (by intro k h1; refine ⟨trivial, ?_, h1.2⟩; replace h1 := h1.1; intro x hxm; have hi := hbi.hi x hxm; have lo := hbi.lo x hxm; (try dsimp only at h1); (repeat' first | (guard_hyp h1 : _ ∨ _; refine Or.elim h1 (fun h1 => ?_) (fun h1 => ?_)) | (guard_hyp h1 : _ ∧ _; have hx := h1.2; replace h1 := h1.1)) <;> first | contradiction | omega | exact hx.1 x hxm))⟩
 ·intro σ β w1 hE1 hbi hk
  have hz1 := hE1.size
  obtain ⟨_, hv152, a152, cap152, rfl, hts152⟩ := kn hk 33 rfl rfl
  have hts152 := hts152.lt
  have hlen152 := hts152.len
  refine ⟨[(61, .slice a152 (([qd1, qd10, qd2]).length) cap152)], (ag hv152 (agree_nil _)), ?_⟩
  refine WL.call rfl rfl rfl Ty.ent19 (node11_ok _ _ 3 _ _ ([qd1, qd10, qd2]) hts152) ?_
  rintro _ w155 ⟨l153, rfl, hr153, hE154⟩
  have hzhE154 := hE154.size
  refine ⟨_, rfl, ?_⟩
  have hn153 := hr153.lt
  obtain ⟨a153, cap153, rfl, hts153, hlen153⟩ := hn153.op2
  exact dqE hbi hE154 ⟨_, rfl, (hr153.lt.dom (by intro k h1; refine ⟨trivial, ?_, h1.2⟩; replace h1 := h1.1; intro x hxm; have hi := hbi.hi x hxm; have lo := hbi.lo x hxm; (try dsimp only at h1); (repeat' first | (guard_hyp h1 : _ ∨ _; refine Or.elim h1 (fun h1 => ?_) (fun h1 => ?_)) | (guard_hyp h1 : _ ∧ _; have hx := h1.2; replace h1 := h1.1)) <;> first | contradiction | omega | exact hx.1 x hxm))⟩
 ·intro σ β w1 hE1 hbi hk
  have hz1 := hE1.size
  refine ⟨[], (agree_nil _), ?_⟩
  refine WL.load_box rfl rfl rfl (h121.ext hE1) Ty.agg30 ?_
  exact dq hbi rfl
 ·intro σ β w1 hE1 hbi hk
  have hz1 := hE1.size
  obtain ⟨_, hv152, rfl⟩ := kn hk 35 rfl rfl
  refine ⟨[(63, .agg (tcells qd1 (.slice a1 qd1.subs.length cap1)).toArray)], (ag hv152 (agree_nil _)), ?_⟩
  refine WL.call rfl rfl rfl Ty.ent18 (rep11_ok _ _ _ qd1 1 (-1) (h118.ext hE1)) ?_
  rintro _ w155 ⟨l153, rfl, hr153, hE154⟩
  have hzhE154 := hE154.size
  refine ⟨_, rfl, ?_⟩
  have hn153 := hr153.lt
  obtain ⟨a153, cap153, rfl, hts153, hlen153⟩ := hn153.op2
  exact dqE hbi hE154 ⟨_, rfl, (hr153.lt.dom (by intro k h1; refine ⟨trivial, ?_, h1.2⟩; replace h1 := h1.1; intro x hxm; have hi := hbi.hi x hxm; have lo := hbi.lo x hxm; (try dsimp only at h1); (repeat' first | (guard_hyp h1 : _ ∨ _; refine Or.elim h1 (fun h1 => ?_) (fun h1 => ?_)) | (guard_hyp h1 : _ ∧ _; have hx := h1.2; replace h1 := h1.1)) <;> first | contradiction | omega | exact hx.1 x hxm))⟩
 ·intro σ β w1 hE1 hbi hk
  have hz1 := hE1.size
  refine ⟨[], (agree_nil _), ?_⟩
  refine WL.load_box rfl rfl rfl (h122.ext hE1) Ty.agg30 ?_
  exact dq hbi rfl
 ·intro σ β w1 hE1 hbi hk
  have hz1 := hE1.size
  obtain ⟨_, hv152, l152, rfl, hn152⟩ := kn hk 36 rfl rfl
  have hn152 := hn152.lt
  obtain ⟨a152, cap152, rfl, hts152, hlen152⟩ := hn152.op2
  obtain ⟨_, hv153, rfl⟩ := kn hk 37 rfl rfl
  refine ⟨[(64, .agg (tcells qd12 (.slice a152 qd12.subs.length cap152)).toArray), (65, .agg (tcells qd2 (.slice a4 qd2.subs.length cap4)).toArray)], (ag hv152 (ag hv153 (agree_nil _))), ?_⟩
  refine WL.buildSlice (vs := [.agg (tcells qd12 (.slice a152 qd12.subs.length cap152)).toArray, .agg (tcells qd2 (.slice a4 qd2.subs.length cap4)).toArray]) (cells := (tcells qd12 (.slice a152 qd12.subs.length cap152) ++ tcells qd2 (.slice a4 qd2.subs.length cap4))) rfl rfl Ty.slice24 Ty.zero30 rfl rfl rfl rfl rfl rfl (fun b154 w159 hb155 hE158 hs156 hR157 => ?_)
  have hts154 := (NodesV.lit (n := 2) (ts := [qd12, qd2]) hR157 (RowsL.cons (hn152.ext hE158) (RowsL.cons ((h123.ext hE1).ext hE158) (RowsL.nil' _))) rfl rfl (by decide)).lt
  exact dqE hbi hE158 ⟨_, _, rfl, (hts154.dom (by intro k h1; refine ⟨trivial, ?_, h1.2⟩; replace h1 := h1.1; intro x hxm; have hi := hbi.hi x hxm; have lo := hbi.lo x hxm; (try dsimp only at h1); (repeat' first | (guard_hyp h1 : _ ∨ _; refine Or.elim h1 (fun h1 => ?_) (fun h1 => ?_)) | (guard_hyp h1 : _ ∧ _; have hx := h1.2; replace h1 := h1.1)) <;> first | contradiction | omega | exact hx.1 x hxm))⟩
 ·intro σ β w1 hE1 hbi hk
  have hz1 := hE1.size
  obtain ⟨_, hv152, a152, cap152, rfl, hts152⟩ := kn hk 38 rfl rfl
  have hts152 := hts152.lt
  have hlen152 := hts152.len
  refine ⟨[(66, .slice a152 (([qd12, qd2]).length) cap152)], (ag hv152 (agree_nil _)), ?_⟩
  refine WL.call rfl rfl rfl Ty.ent19 (node11_ok _ _ 3 _ _ ([qd12, qd2]) hts152) ?_
  rintro _ w155 ⟨l153, rfl, hr153, hE154⟩
  have hzhE154 := hE154.size
  refine ⟨_, rfl, ?_⟩
  have hn153 := hr153.lt
  obtain ⟨a153, cap153, rfl, hts153, hlen153⟩ := hn153.op2
  exact dqE hbi hE154 ⟨_, rfl, (hr153.lt.dom (by intro k h1; refine ⟨trivial, ?_, h1.2⟩; replace h1 := h1.1; intro x hxm; have hi := hbi.hi x hxm; have lo := hbi.lo x hxm; (try dsimp only at h1); (repeat' first | (guard_hyp h1 : _ ∨ _; refine Or.elim h1 (fun h1 => ?_) (fun h1 => ?_)) | (guard_hyp h1 : _ ∧ _; have hx := h1.2; replace h1 := h1.1)) <;> first | contradiction | omega | exact hx.1 x hxm))⟩
 ·intro σ β w1 hE1 hbi hk
  have hz1 := hE1.size
  obtain ⟨_, hv152, l152, rfl, hn152⟩ := kn hk 34 rfl rfl
  have hn152 := hn152.lt
  obtain ⟨a152, cap152, rfl, hts152, hlen152⟩ := hn152.op2
  obtain ⟨_, hv153, l153, rfl, hn153⟩ := kn hk 39 rfl rfl
  have hn153 := hn153.lt
  obtain ⟨a153, cap153, rfl, hts153, hlen153⟩ := hn153.op2
  refine ⟨[(62, .agg (tcells qd27 (.slice a152 qd27.subs.length cap152)).toArray), (67, .agg (tcells qd21 (.slice a153 qd21.subs.length cap153)).toArray)], (ag hv152 (ag hv153 (agree_nil _))), ?_⟩
  refine WL.build (l := (tcells qd27 (.slice a152 qd27.subs.length cap152) ++ tcells qd21 (.slice a153 qd21.subs.length cap153))) rfl rfl Ty.zero46 Ty.st46 ⟨⟨rfl, rfl⟩, (by kernel_rfl)⟩ ?_
  exact dq hbi ⟨(tcells qd27 (.slice a152 qd27.subs.length cap152)), (tcells qd21 (.slice a153 qd21.subs.length cap153)), rfl, (hn152.lt.dom (by intro k h1; refine ⟨trivial, ?_, h1.2⟩; replace h1 := h1.1; intro x hxm; have hi := hbi.hi x hxm; have lo := hbi.lo x hxm; (try dsimp only at h1); (repeat' first | (guard_hyp h1 : _ ∨ _; refine Or.elim h1 (fun h1 => ?_) (fun h1 => ?_)) | (guard_hyp h1 : _ ∧ _; have hx := h1.2; replace h1 := h1.1)) <;> first | contradiction | omega | exact hx.1 x hxm)), (hn153.lt.dom (by intro k h1; refine ⟨trivial, ?_, h1.2⟩; replace h1 := h1.1; intro x hxm; have hi := hbi.hi x hxm; have lo := hbi.lo x hxm; (try dsimp only at h1); (repeat' first | (guard_hyp h1 : _ ∨ _; refine Or.elim h1 (fun h1 => ?_) (fun h1 => ?_)) | (guard_hyp h1 : _ ∧ _; have hx := h1.2; replace h1 := h1.1)) <;> first | contradiction | omega | exact hx.1 x hxm))⟩
 ·intro σ β w1 hE1 hbi hk
  have hz1 := hE1.size
  refine ⟨[], (agree_nil _), ?_⟩
  refine WL.load_box rfl rfl rfl (hR115.ext hE1) Ty.agg30 ?_
  exact dq hbi rfl
 ·intro σ β w1 hE1 hbi hk
  have hz1 := hE1.size
  refine ⟨[], (agree_nil _), ?_⟩
  refine WL.load_box rfl rfl rfl (h122.ext hE1) Ty.agg30 ?_
  exact dq hbi rfl
 ·intro σ β w1 hE1 hbi hk
  have hz1 := hE1.size
  refine ⟨[], (agree_nil _), ?_⟩
  refine WL.load_box rfl rfl rfl (h122.ext hE1) Ty.agg30 ?_
  exact dq hbi rfl
 ·intro σ β w1 hE1 hbi hk
  have hz1 := hE1.size
  obtain ⟨_, hv152, rfl⟩ := kn hk 41 rfl rfl
  obtain ⟨_, hv153, rfl⟩ := kn hk 42 rfl rfl
  obtain ⟨_, hv154, rfl⟩ := kn hk 43 rfl rfl
  refine ⟨[(69, .agg (tcells qd9 (.slice a106 qd9.subs.length cap106)).toArray), (70, .agg (tcells qd2 (.slice a4 qd2.subs.length cap4)).toArray), (71, .agg (tcells qd2 (.slice a4 qd2.subs.length cap4)).toArray)], (ag hv152 (ag hv153 (ag hv154 (agree_nil _)))), ?_⟩
  refine WL.buildSlice (vs := [.agg (tcells qd9 (.slice a106 qd9.subs.length cap106)).toArray, .agg (tcells qd2 (.slice a4 qd2.subs.length cap4)).toArray, .agg (tcells qd2 (.slice a4 qd2.subs.length cap4)).toArray]) (cells := (tcells qd9 (.slice a106 qd9.subs.length cap106) ++ tcells qd2 (.slice a4 qd2.subs.length cap4) ++ tcells qd2 (.slice a4 qd2.subs.length cap4))) rfl rfl Ty.slice24 Ty.zero30 rfl rfl rfl rfl rfl rfl (fun b155 w160 hb156 hE159 hs157 hR158 => ?_)
  have hts155 := (NodesV.lit (n := 3) (ts := [qd9, qd2, qd2]) hR158 (RowsL.cons ((h120.ext hE1).ext hE159) (RowsL.cons ((h123.ext hE1).ext hE159) (RowsL.cons ((h123.ext hE1).ext hE159) (RowsL.nil' _)))) rfl rfl (by decide)).lt
  exact dqE hbi hE159 ⟨_, _, rfl, (hts155.dom (by intro k h1; refine ⟨trivial, ?_, h1.2⟩; replace h1 := h1.1; intro x hxm; have hi := hbi.hi x hxm; have lo := hbi.lo x hxm; (try dsimp only at h1); (repeat' first | (guard_hyp h1 : _ ∨ _; refine Or.elim h1 (fun h1 => ?_) (fun h1 => ?_)) | (guard_hyp h1 : _ ∧ _; have hx := h1.2; replace h1 := h1.1)) <;> first | contradiction | omega | exact hx.1 x hxm))⟩
 ·intro σ β w1 hE1 hbi hk
  have hz1 := hE1.size
  obtain ⟨_, hv152, a152, cap152, rfl, hts152⟩ := kn hk 44 rfl rfl
  have hts152 := hts152.lt
  have hlen152 := hts152.len
  refine ⟨[(72, .slice a152 (([qd9, qd2, qd2]).length) cap152)], (ag hv152 (agree_nil _)), ?_⟩
  refine WL.call rfl rfl rfl Ty.ent19 (node11_ok _ _ 4 _ _ ([qd9, qd2, qd2]) hts152) ?_
  rintro _ w155 ⟨l153, rfl, hr153, hE154⟩
  have hzhE154 := hE154.size
  refine ⟨_, rfl, ?_⟩
  have hn153 := hr153.lt
  obtain ⟨a153, cap153, rfl, hts153, hlen153⟩ := hn153.op2
  exact dqE hbi hE154 ⟨_, rfl, (hr153.lt.dom (by intro k h1; refine ⟨trivial, ?_, h1.2⟩; replace h1 := h1.1; intro x hxm; have hi := hbi.hi x hxm; have lo := hbi.lo x hxm; (try dsimp only at h1); (repeat' first | (guard_hyp h1 : _ ∨ _; refine Or.elim h1 (fun h1 => ?_) (fun h1 => ?_)) | (guard_hyp h1 : _ ∧ _; have hx := h1.2; replace h1 := h1.1)) <;> first | contradiction | omega | exact hx.1 x hxm))⟩
 ·intro σ β w1 hE1 hbi hk
  have hz1 := hE1.size
  refine ⟨[], (agree_nil _), ?_⟩
  refine WL.load_box rfl rfl rfl (hR115.ext hE1) Ty.agg30 ?_
  exact dq hbi rfl
 ·intro σ β w1 hE1 hbi hk
  have hz1 := hE1.size
  refine ⟨[], (agree_nil _), ?_⟩
  refine WL.load_box rfl rfl rfl (h122.ext hE1) Ty.agg30 ?_
  exact dq hbi rfl
 ·intro σ β w1 hE1 hbi hk
  have hz1 := hE1.size
  obtain ⟨_, hv152, rfl⟩ := kn hk 46 rfl rfl
  obtain ⟨_, hv153, rfl⟩ := kn hk 47 rfl rfl
  refine ⟨[(74, .agg (tcells qd9 (.slice a106 qd9.subs.length cap106)).toArray), (75, .agg (tcells qd2 (.slice a4 qd2.subs.length cap4)).toArray)], (ag hv152 (ag hv153 (agree_nil _))), ?_⟩
  refine WL.buildSlice (vs := [.agg (tcells qd9 (.slice a106 qd9.subs.length cap106)).toArray, .agg (tcells qd2 (.slice a4 qd2.subs.length cap4)).toArray]) (cells := (tcells qd9 (.slice a106 qd9.subs.length cap106) ++ tcells qd2 (.slice a4 qd2.subs.length cap4))) rfl rfl Ty.slice24 Ty.zero30 rfl rfl rfl rfl rfl rfl (fun b154 w159 hb155 hE158 hs156 hR157 => ?_)
  have hts154 := (NodesV.lit (n := 2) (ts := [qd9, qd2]) hR157 (RowsL.cons ((h120.ext hE1).ext hE158) (RowsL.cons ((h123.ext hE1).ext hE158) (RowsL.nil' _))) rfl rfl (by decide)).lt
  exact dqE hbi hE158 ⟨_, _, rfl, (hts154.dom (by intro k h1; refine ⟨trivial, ?_, h1.2⟩; replace h1 := h1.1; intro x hxm; have hi := hbi.hi x hxm; have lo := hbi.lo x hxm; (try dsimp only at h1); (repeat' first | (guard_hyp h1 : _ ∨ _; refine Or.elim h1 (fun h1 => ?_) (fun h1 => ?_)) | (guard_hyp h1 : _ ∧ _; have hx := h1.2; replace h1 := h1.1)) <;> first | contradiction | omega | exact hx.1 x hxm))⟩
 ·intro σ β w1 hE1 hbi hk
  have hz1 := hE1.size
  obtain ⟨_, hv152, a152, cap152, rfl, hts152⟩ := kn hk 48 rfl rfl
  have hts152 := hts152.lt
  have hlen152 := hts152.len
  refine ⟨[(76, .slice a152 (([qd9, qd2]).length) cap152)], (ag hv152 (agree_nil _)), ?_⟩
  refine WL.call rfl rfl rfl Ty.ent19 (node11_ok _ _ 4 _ _ ([qd9, qd2]) hts152) ?_
  rintro _ w155 ⟨l153, rfl, hr153, hE154⟩
  have hzhE154 := hE154.size
  refine ⟨_, rfl, ?_⟩
  have hn153 := hr153.lt
  obtain ⟨a153, cap153, rfl, hts153, hlen153⟩ := hn153.op2
  exact dqE hbi hE154 ⟨_, rfl, (hr153.lt.dom (by intro k h1; refine ⟨trivial, ?_, h1.2⟩; replace h1 := h1.1; intro x hxm; have hi := hbi.hi x hxm; have lo := hbi.lo x hxm; (try dsimp only at h1); (repeat' first | (guard_hyp h1 : _ ∨ _; refine Or.elim h1 (fun h1 => ?_) (fun h1 => ?_)) | (guard_hyp h1 : _ ∧ _; have hx := h1.2; replace h1 := h1.1)) <;> first | contradiction | omega | exact hx.1 x hxm))⟩
 ·intro σ β w1 hE1 hbi hk
  have hz1 := hE1.size
  obtain ⟨_, hv152, l152, rfl, hn152⟩ := kn hk 45 rfl rfl
  have hn152 := hn152.lt
  obtain ⟨a152, cap152, rfl, hts152, hlen152⟩ := hn152.op2
  obtain ⟨_, hv153, l153, rfl, hn153⟩ := kn hk 49 rfl rfl
  have hn153 := hn153.lt
  obtain ⟨a153, cap153, rfl, hts153, hlen153⟩ := hn153.op2
  refine ⟨[(73, .agg (tcells qd25 (.slice a152 qd25.subs.length cap152)).toArray), (77, .agg (tcells qd15 (.slice a153 qd15.subs.length cap153)).toArray)], (ag hv152 (ag hv153 (agree_nil _))), ?_⟩
  refine WL.build (l := (tcells qd25 (.slice a152 qd25.subs.length cap152) ++ tcells qd15 (.slice a153 qd15.subs.length cap153))) rfl rfl Ty.zero46 Ty.st46 ⟨⟨rfl, rfl⟩, (by kernel_rfl)⟩ ?_
  exact dq hbi ⟨(tcells qd25 (.slice a152 qd25.subs.length cap152)), (tcells qd15 (.slice a153 qd15.subs.length cap153)), rfl, (hn152.lt.dom (by intro k h1; refine ⟨trivial, ?_, h1.2⟩; replace h1 := h1.1; intro x hxm; have hi := hbi.hi x hxm; have lo := hbi.lo x hxm; (try dsimp only at h1); (repeat' first | (guard_hyp h1 : _ ∨ _; refine Or.elim h1 (fun h1 => ?_) (fun h1 => ?_)) | (guard_hyp h1 : _ ∧ _; have hx := h1.2; replace h1 := h1.1)) <;> first | contradiction | omega | exact hx.1 x hxm)), (hn153.lt.dom (by intro k h1; refine ⟨trivial, ?_, h1.2⟩; replace h1 := h1.1; intro x hxm; have hi := hbi.hi x hxm; have lo := hbi.lo x hxm; (try dsimp only at h1); (repeat' first | (guard_hyp h1 : _ ∨ _; refine Or.elim h1 (fun h1 => ?_) (fun h1 => ?_)) | (guard_hyp h1 : _ ∧ _; have hx := h1.2; replace h1 := h1.1)) <;> first | contradiction | omega | exact hx.1 x hxm))⟩
 ·intro σ β w1 hE1 hbi hk
  have hz1 := hE1.size
  refine ⟨[], (agree_nil _), ?_⟩
  refine WL.load_box rfl rfl rfl (hR115.ext hE1) Ty.agg30 ?_
  exact dq hbi rfl
 ·intro σ β w1 hE1 hbi hk
  have hz1 := hE1.size
  refine ⟨[], (agree_nil _), ?_⟩
  refine WL.load_box rfl rfl rfl (h122.ext hE1) Ty.agg30 ?_
  exact dq hbi rfl
 ·intro σ β w1 hE1 hbi hk
  have hz1 := hE1.size
  refine ⟨[], (agree_nil _), ?_⟩
  refine WL.call rfl rfl rfl Ty.ent12 (class11_ok _ ([99]) (by decide)) ?_
  rintro _ w154 ⟨l152, rfl, hr152, hE153⟩
  have hzhE153 := hE153.size
  refine ⟨_, rfl, ?_⟩
  have hn152 := hr152.lt
  obtain ⟨a152, cap152, rfl, hts152, hlen152⟩ := hn152.op2
  exact dqE hbi hE153 ⟨_, rfl, (hr152.off0 hbi (fun k hk => Nat.le_trans hE1.size hk))⟩
 ·intro σ β w1 hE1 hbi hk
  have hz1 := hE1.size
  obtain ⟨_, hv152, rfl⟩ := kn hk 51 rfl rfl
  obtain ⟨_, hv153, rfl⟩ := kn hk 52 rfl rfl
  obtain ⟨_, hv154, l154, rfl, hn154⟩ := kn hk 53 rfl rfl
  have hn154 := hn154.lt
  obtain ⟨a154, cap154, rfl, hts154, hlen154⟩ := hn154.op2
  refine ⟨[(79, .agg (tcells qd9 (.slice a106 qd9.subs.length cap106)).toArray), (80, .agg (tcells qd2 (.slice a4 qd2.subs.length cap4)).toArray), (81, .agg (tcells qd3 (.slice a154 qd3.subs.length cap154)).toArray)], (ag hv152 (ag hv153 (ag hv154 (agree_nil _)))), ?_⟩
  refine WL.buildSlice (vs := [.agg (tcells qd9 (.slice a106 qd9.subs.length cap106)).toArray, .agg (tcells qd2 (.slice a4 qd2.subs.length cap4)).toArray, .agg (tcells qd3 (.slice a154 qd3.subs.length cap154)).toArray]) (cells := (tcells qd9 (.slice a106 qd9.subs.length cap106) ++ tcells qd2 (.slice a4 qd2.subs.length cap4) ++ tcells qd3 (.slice a154 qd3.subs.length cap154))) rfl rfl Ty.slice24 Ty.zero30 rfl rfl rfl rfl rfl rfl (fun b155 w160 hb156 hE159 hs157 hR158 => ?_)
  have hts155 := (NodesV.lit (n := 3) (ts := [qd9, qd2, qd3]) hR158 (RowsL.cons ((h120.ext hE1).ext hE159) (RowsL.cons ((h123.ext hE1).ext hE159) (RowsL.cons (hn154.ext hE159) (RowsL.nil' _)))) rfl rfl (by decide)).lt
  exact dqE hbi hE159 ⟨_, _, rfl, (hts155.dom (by intro k h1; refine ⟨trivial, ?_, h1.2⟩; replace h1 := h1.1; intro x hxm; have hi := hbi.hi x hxm; have lo := hbi.lo x hxm; (try dsimp only at h1); (repeat' first | (guard_hyp h1 : _ ∨ _; refine Or.elim h1 (fun h1 => ?_) (fun h1 => ?_)) | (guard_hyp h1 : _ ∧ _; have hx := h1.2; replace h1 := h1.1)) <;> first | contradiction | omega | exact hx.1 x hxm))⟩
 ·intro σ β w1 hE1 hbi hk
  have hz1 := hE1.size
  obtain ⟨_, hv152, a152, cap152, rfl, hts152⟩ := kn hk 54 rfl rfl
  have hts152 := hts152.lt
  have hlen152 := hts152.len
  refine ⟨[(82, .slice a152 (([qd9, qd2, qd3]).length) cap152)], (ag hv152 (agree_nil _)), ?_⟩
  refine WL.call rfl rfl rfl Ty.ent19 (node11_ok _ _ 4 _ _ ([qd9, qd2, qd3]) hts152) ?_
  rintro _ w155 ⟨l153, rfl, hr153, hE154⟩
  have hzhE154 := hE154.size
  refine ⟨_, rfl, ?_⟩
  have hn153 := hr153.lt
  obtain ⟨a153, cap153, rfl, hts153, hlen153⟩ := hn153.op2
  exact dqE hbi hE154 ⟨_, rfl, (hr153.lt.dom (by intro k h1; refine ⟨trivial, ?_, h1.2⟩; replace h1 := h1.1; intro x hxm; have hi := hbi.hi x hxm; have lo := hbi.lo x hxm; (try dsimp only at h1); (repeat' first | (guard_hyp h1 : _ ∨ _; refine Or.elim h1 (fun h1 => ?_) (fun h1 => ?_)) | (guard_hyp h1 : _ ∧ _; have hx := h1.2; replace h1 := h1.1)) <;> first | contradiction | omega | exact hx.1 x hxm))⟩
 ·intro σ β w1 hE1 hbi hk
  have hz1 := hE1.size
  refine ⟨[], (agree_nil _), ?_⟩
  refine WL.load_box rfl rfl rfl (hR115.ext hE1) Ty.agg30 ?_
  exact dq hbi rfl
 ·intro σ β w1 hE1 hbi hk
  have hz1 := hE1.size
  refine ⟨[], (agree_nil _), ?_⟩
  refine WL.load_box rfl rfl rfl (h122.ext hE1) Ty.agg30 ?_
  exact dq hbi rfl
 ·intro σ β w1 hE1 hbi hk
  have hz1 := hE1.size
  refine ⟨[], (agree_nil _), ?_⟩
  refine WL.call rfl rfl rfl Ty.ent12 (class11_ok _ ([99]) (by decide)) ?_
  rintro _ w154 ⟨l152, rfl, hr152, hE153⟩
  have hzhE153 := hE153.size
  refine ⟨_, rfl, ?_⟩
  have hn152 := hr152.lt
  obtain ⟨a152, cap152, rfl, hts152, hlen152⟩ := hn152.op2
  exact dqE hbi hE153 ⟨_, rfl, (hr152.off0 hbi (fun k hk => Nat.le_trans hE1.size hk))⟩
 ·intro σ β w1 hE1 hbi hk
  have hz1 := hE1.size
  obtain ⟨_, hv152, rfl⟩ := kn hk 56 rfl rfl
  obtain ⟨_, hv153, rfl⟩ := kn hk 57 rfl rfl
  obtain ⟨_, hv154, l154, rfl, hn154⟩ := kn hk 58 rfl rfl
  have hn154 := hn154.lt
  obtain ⟨a154, cap154, rfl, hts154, hlen154⟩ := hn154.op2
  refine ⟨[(84, .agg (tcells qd9 (.slice a106 qd9.subs.length cap106)).toArray), (85, .agg (tcells qd2 (.slice a4 qd2.subs.length cap4)).toArray), (86, .agg (tcells qd3 (.slice a154 qd3.subs.length cap154)).toArray)], (ag hv152 (ag hv153 (ag hv154 (agree_nil _)))), ?_⟩
  refine WL.buildSlice (vs := [.agg (tcells qd9 (.slice a106 qd9.subs.length cap106)).toArray, .agg (tcells qd2 (.slice a4 qd2.subs.length cap4)).toArray, .agg (tcells qd3 (.slice a154 qd3.subs.length cap154)).toArray]) (cells := (tcells qd9 (.slice a106 qd9.subs.length cap106) ++ tcells qd2 (.slice a4 qd2.subs.length cap4) ++ tcells qd3 (.slice a154 qd3.subs.length cap154))) rfl rfl Ty.slice24 Ty.zero30 rfl rfl rfl rfl rfl rfl (fun b155 w160 hb156 hE159 hs157 hR158 => ?_)
  have hts155 := (NodesV.lit (n := 3) (ts := [qd9, qd2, qd3]) hR158 (RowsL.cons ((h120.ext hE1).ext hE159) (RowsL.cons ((h123.ext hE1).ext hE159) (RowsL.cons (hn154.ext hE159) (RowsL.nil' _)))) rfl rfl (by decide)).lt
  exact dqE hbi hE159 ⟨_, _, rfl, (hts155.dom (by intro k h1; refine ⟨trivial, ?_, h1.2⟩; replace h1 := h1.1; intro x hxm; have hi := hbi.hi x hxm; have lo := hbi.lo x hxm; (try dsimp only at h1); (repeat' first | (guard_hyp h1 : _ ∨ _; refine Or.elim h1 (fun h1 => ?_) (fun h1 => ?_)) | (guard_hyp h1 : _ ∧ _; have hx := h1.2; replace h1 := h1.1)) <;> first | contradiction | omega | exact hx.1 x hxm))⟩
 ·intro σ β w1 hE1 hbi hk
  have hz1 := hE1.size
  obtain ⟨_, hv152, a152, cap152, rfl, hts152⟩ := kn hk 59 rfl rfl
  have hts152 := hts152.lt
  have hlen152 := hts152.len
  refine ⟨[(87, .slice a152 (([qd9, qd2, qd3]).length) cap152)], (ag hv152 (agree_nil _)), ?_⟩
  refine WL.call rfl rfl rfl Ty.ent19 (node11_ok _ _ 4 _ _ ([qd9, qd2, qd3]) hts152) ?_
  rintro _ w155 ⟨l153, rfl, hr153, hE154⟩
  have hzhE154 := hE154.size
  refine ⟨_, rfl, ?_⟩
  have hn153 := hr153.lt
  obtain ⟨a153, cap153, rfl, hts153, hlen153⟩ := hn153.op2
  exact dqE hbi hE154 ⟨_, rfl, (hr153.lt.dom (by intro k h1; refine ⟨trivial, ?_, h1.2⟩; replace h1 := h1.1; intro x hxm; have hi := hbi.hi x hxm; have lo := hbi.lo x hxm; (try dsimp only at h1); (repeat' first | (guard_hyp h1 : _ ∨ _; refine Or.elim h1 (fun h1 => ?_) (fun h1 => ?_)) | (guard_hyp h1 : _ ∧ _; have hx := h1.2; replace h1 := h1.1)) <;> first | contradiction | omega | exact hx.1 x hxm))⟩
 ·intro σ β w1 hE1 hbi hk
  have hz1 := hE1.size
  obtain ⟨_, hv152, l152, rfl, hn152⟩ := kn hk 55 rfl rfl
  have hn152 := hn152.lt
  obtain ⟨a152, cap152, rfl, hts152, hlen152⟩ := hn152.op2
  obtain ⟨_, hv153, l153, rfl, hn153⟩ := kn hk 60 rfl rfl
  have hn153 := hn153.lt
  obtain ⟨a153, cap153, rfl, hts153, hlen153⟩ := hn153.op2
  refine ⟨[(83, .agg (tcells qd26 (.slice a152 qd26.subs.length cap152)).toArray), (88, .agg (tcells qd26 (.slice a153 qd26.subs.length cap153)).toArray)], (ag hv152 (ag hv153 (agree_nil _))), ?_⟩
  refine WL.build (l := (tcells qd26 (.slice a152 qd26.subs.length cap152) ++ tcells qd26 (.slice a153 qd26.subs.length cap153))) rfl rfl Ty.zero46 Ty.st46 ⟨⟨rfl, rfl⟩, (by kernel_rfl)⟩ ?_
  exact dq hbi ⟨(tcells qd26 (.slice a152 qd26.subs.length cap152)), (tcells qd26 (.slice a153 qd26.subs.length cap153)), rfl, (hn152.lt.dom (by intro k h1; refine ⟨trivial, ?_, h1.2⟩; replace h1 := h1.1; intro x hxm; have hi := hbi.hi x hxm; have lo := hbi.lo x hxm; (try dsimp only at h1); (repeat' first | (guard_hyp h1 : _ ∨ _; refine Or.elim h1 (fun h1 => ?_) (fun h1 => ?_)) | (guard_hyp h1 : _ ∧ _; have hx := h1.2; replace h1 := h1.1)) <;> first | contradiction | omega | exact hx.1 x hxm)), (hn153.lt.dom (by intro k h1; refine ⟨trivial, ?_, h1.2⟩; replace h1 := h1.1; intro x hxm; have hi := hbi.hi x hxm; have lo := hbi.lo x hxm; (try dsimp only at h1); (repeat' first | (guard_hyp h1 : _ ∨ _; refine Or.elim h1 (fun h1 => ?_) (fun h1 => ?_)) | (guard_hyp h1 : _ ∧ _; have hx := h1.2; replace h1 := h1.1)) <;> first | contradiction | omega | exact hx.1 x hxm))⟩
 ·intro σ β w1 hE1 hbi hk
  have hz1 := hE1.size
  refine ⟨[], (agree_nil _), ?_⟩
  refine WL.load_box rfl rfl rfl (h128.ext hE1) Ty.agg30 ?_
  exact dq hbi rfl
 ·intro σ β w1 hE1 hbi hk
  have hz1 := hE1.size
  refine ⟨[], (agree_nil _), ?_⟩
  refine WL.load_box rfl rfl rfl (h130.ext hE1) Ty.agg30 ?_
  exact dq hbi rfl
 ·intro σ β w1 hE1 hbi hk
  have hz1 := hE1.size
  refine ⟨[], (agree_nil _), ?_⟩
  refine WL.load_box rfl rfl rfl (h128.ext hE1) Ty.agg30 ?_
  exact dq hbi rfl
 ·intro σ β w1 hE1 hbi hk
  have hz1 := hE1.size
  obtain ⟨_, hv152, rfl⟩ := kn hk 62 rfl rfl
  obtain ⟨_, hv153, rfl⟩ := kn hk 63 rfl rfl
  obtain ⟨_, hv154, rfl⟩ := kn hk 64 rfl rfl
  refine ⟨[(90, .agg (tcells qd16 (.slice a62 qd16.subs.length cap62)).toArray), (91, .agg (tcells qd17 (.slice a77 qd17.subs.length cap77)).toArray), (92, .agg (tcells qd16 (.slice a62 qd16.subs.length cap62)).toArray)], (ag hv152 (ag hv153 (ag hv154 (agree_nil _)))), ?_⟩
  refine WL.buildSlice (vs := [.agg (tcells qd16 (.slice a62 qd16.subs.length cap62)).toArray, .agg (tcells qd17 (.slice a77 qd17.subs.length cap77)).toArray, .agg (tcells qd16 (.slice a62 qd16.subs.length cap62)).toArray]) (cells := (tcells qd16 (.slice a62 qd16.subs.length cap62) ++ tcells qd17 (.slice a77 qd17.subs.length cap77) ++ tcells qd16 (.slice a62 qd16.subs.length cap62))) rfl rfl Ty.slice24 Ty.zero30 rfl rfl rfl rfl rfl rfl (fun b155 w160 hb156 hE159 hs157 hR158 => ?_)
  have hts155 := (NodesV.lit (n := 3) (ts := [qd16, qd17, qd16]) hR158 (RowsL.cons ((h129.ext hE1).ext hE159) (RowsL.cons ((h131.ext hE1).ext hE159) (RowsL.cons ((h129.ext hE1).ext hE159) (RowsL.nil' _)))) rfl rfl (by decide)).lt
  exact dqE hbi hE159 ⟨_, _, rfl, (hts155.dom (by intro k h1; refine ⟨trivial, ?_, h1.2⟩; replace h1 := h1.1; intro x hxm; have hi := hbi.hi x hxm; have lo := hbi.lo x hxm; (try dsimp only at h1); (repeat' first | (guard_hyp h1 : _ ∨ _; refine Or.elim h1 (fun h1 => ?_) (fun h1 => ?_)) | (guard_hyp h1 : _ ∧ _; have hx := h1.2; replace h1 := h1.1)) <;> first | contradiction | omega | exact hx.1 x hxm))⟩
 ·intro σ β w1 hE1 hbi hk
  have hz1 := hE1.size
  obtain ⟨_, hv152, a152, cap152, rfl, hts152⟩ := kn hk 65 rfl rfl
  have hts152 := hts152.lt
  have hlen152 := hts152.len
  refine ⟨[(93, .slice a152 (([qd16, qd17, qd16]).length) cap152)], (ag hv152 (agree_nil _)), ?_⟩
  refine WL.call rfl rfl rfl Ty.ent19 (node11_ok _ _ 4 _ _ ([qd16, qd17, qd16]) hts152) ?_
  rintro _ w155 ⟨l153, rfl, hr153, hE154⟩
  have hzhE154 := hE154.size
  refine ⟨_, rfl, ?_⟩
  have hn153 := hr153.lt
  obtain ⟨a153, cap153, rfl, hts153, hlen153⟩ := hn153.op2
  exact dqE hbi hE154 ⟨_, rfl, (hr153.lt.dom (by intro k h1; refine ⟨trivial, ?_, h1.2⟩; replace h1 := h1.1; intro x hxm; have hi := hbi.hi x hxm; have lo := hbi.lo x hxm; (try dsimp only at h1); (repeat' first | (guard_hyp h1 : _ ∨ _; refine Or.elim h1 (fun h1 => ?_) (fun h1 => ?_)) | (guard_hyp h1 : _ ∧ _; have hx := h1.2; replace h1 := h1.1)) <;> first | contradiction | omega | exact hx.1 x hxm))⟩
 ·intro σ β w1 hE1 hbi hk
  have hz1 := hE1.size
  refine ⟨[], (agree_nil _), ?_⟩
  refine WL.load_box rfl rfl rfl (h128.ext hE1) Ty.agg30 ?_
  exact dq hbi rfl
 ·intro σ β w1 hE1 hbi hk
  have hz1 := hE1.size
  refine ⟨[], (agree_nil _), ?_⟩
  refine WL.load_box rfl rfl rfl (h130.ext hE1) Ty.agg30 ?_
  exact dq hbi rfl
 ·intro σ β w1 hE1 hbi hk
  have hz1 := hE1.size
  obtain ⟨_, hv152, rfl⟩ := kn hk 67 rfl rfl
  obtain ⟨_, hv153, rfl⟩ := kn hk 68 rfl rfl
  refine ⟨[(95, .agg (tcells qd16 (.slice a62 qd16.subs.length cap62)).toArray), (96, .agg (tcells qd17 (.slice a77 qd17.subs.length cap77)).toArray)], (ag hv152 (ag hv153 (agree_nil _))), ?_⟩
  refine WL.buildSlice (vs := [.agg (tcells qd16 (.slice a62 qd16.subs.length cap62)).toArray, .agg (tcells qd17 (.slice a77 qd17.subs.length cap77)).toArray]) (cells := (tcells qd16 (.slice a62 qd16.subs.length cap62) ++ tcells qd17 (.slice a77 qd17.subs.length cap77))) rfl rfl Ty.slice24 Ty.zero30 rfl rfl rfl rfl rfl rfl (fun b154 w159 hb155 hE158 hs156 hR157 => ?_)
  have hts154 := (NodesV.lit (n := 2) (ts := [qd16, qd17]) hR157 (RowsL.cons ((h129.ext hE1).ext hE158) (RowsL.cons ((h131.ext hE1).ext hE158) (RowsL.nil' _))) rfl rfl (by decide)).lt
  exact dqE hbi hE158 ⟨_, _, rfl, (hts154.dom (by intro k h1; refine ⟨trivial, ?_, h1.2⟩; replace h1 := h1.1; intro x hxm; have hi := hbi.hi x hxm; have lo := hbi.lo x hxm; (try dsimp only at h1); (repeat' first | (guard_hyp h1 : _ ∨ _; refine Or.elim h1 (fun h1 => ?_) (fun h1 => ?_)) | (guard_hyp h1 : _ ∧ _; have hx := h1.2; replace h1 := h1.1)) <;> first | contradiction | omega | exact hx.1 x hxm))⟩
 ·intro σ β w1 hE1 hbi hk
  have hz1 := hE1.size
  obtain ⟨_, hv152, a152, cap152, rfl, hts152⟩ := kn hk 69 rfl rfl
  have hts152 := hts152.lt
  have hlen152 := hts152.len
  refine ⟨[(97, .slice a152 (([qd16, qd17]).length) cap152)], (ag hv152 (agree_nil _)), ?_⟩
  refine WL.call rfl rfl rfl Ty.ent19 (node11_ok _ _ 4 _ _ ([qd16, qd17]) hts152) ?_
  rintro _ w155 ⟨l153, rfl, hr153, hE154⟩
  have hzhE154 := hE154.size
  refine ⟨_, rfl, ?_⟩
  have hn153 := hr153.lt
  obtain ⟨a153, cap153, rfl, hts153, hlen153⟩ := hn153.op2
  exact dqE hbi hE154 ⟨_, rfl, (hr153.lt.dom (by intro k h1; refine ⟨trivial, ?_, h1.2⟩; replace h1 := h1.1; intro x hxm; have hi := hbi.hi x hxm; have lo := hbi.lo x hxm; (try dsimp only at h1); (repeat' first | (guard_hyp h1 : _ ∨ _; refine Or.elim h1 (fun h1 => ?_) (fun h1 => ?_)) | (guard_hyp h1 : _ ∧ _; have hx := h1.2; replace h1 := h1.1)) <;> first | contradiction | omega | exact hx.1 x hxm))⟩
 ·intro σ β w1 hE1 hbi hk
  have hz1 := hE1.size
  obtain ⟨_, hv152, l152, rfl, hn152⟩ := kn hk 66 rfl rfl
  have hn152 := hn152.lt
  obtain ⟨a152, cap152, rfl, hts152, hlen152⟩ := hn152.op2
  obtain ⟨_, hv153, l153, rfl, hn153⟩ := kn hk 70 rfl rfl
  have hn153 := hn153.lt
  obtain ⟨a153, cap153, rfl, hts153, hlen153⟩ := hn153.op2
  refine ⟨[(94, .agg (tcells qd28 (.slice a152 qd28.subs.length cap152)).toArray), (98, .agg (tcells qd22 (.slice a153 qd22.subs.length cap153)).toArray)], (ag hv152 (ag hv153 (agree_nil _))), ?_⟩
  refine WL.build (l := (tcells qd28 (.slice a152 qd28.subs.length cap152) ++ tcells qd22 (.slice a153 qd22.subs.length cap153))) rfl rfl Ty.zero46 Ty.st46 ⟨⟨rfl, rfl⟩, (by kernel_rfl)⟩ ?_
  exact dq hbi ⟨(tcells qd28 (.slice a152 qd28.subs.length cap152)), (tcells qd22 (.slice a153 qd22.subs.length cap153)), rfl, (hn152.lt.dom (by intro k h1; refine ⟨trivial, ?_, h1.2⟩; replace h1 := h1.1; intro x hxm; have hi := hbi.hi x hxm; have lo := hbi.lo x hxm; (try dsimp only at h1); (repeat' first | (guard_hyp h1 : _ ∨ _; refine Or.elim h1 (fun h1 => ?_) (fun h1 => ?_)) | (guard_hyp h1 : _ ∧ _; have hx := h1.2; replace h1 := h1.1)) <;> first | contradiction | omega | exact hx.1 x hxm)), (hn153.lt.dom (by intro k h1; refine ⟨trivial, ?_, h1.2⟩; replace h1 := h1.1; intro x hxm; have hi := hbi.hi x hxm; have lo := hbi.lo x hxm; (try dsimp only at h1); (repeat' first | (guard_hyp h1 : _ ∨ _; refine Or.elim h1 (fun h1 => ?_) (fun h1 => ?_)) | (guard_hyp h1 : _ ∧ _; have hx := h1.2; replace h1 := h1.1)) <;> first | contradiction | omega | exact hx.1 x hxm))⟩
 ·intro σ β w1 hE1 hbi hk
  have hz1 := hE1.size
  refine ⟨[], (agree_nil _), ?_⟩
  refine WL.load_box rfl rfl rfl (h126.ext hE1) Ty.agg30 ?_
  exact dq hbi rfl
 ·intro σ β w1 hE1 hbi hk
  have hz1 := hE1.size
  refine ⟨[], (agree_nil _), ?_⟩
  refine WL.load_box rfl rfl rfl (h126.ext hE1) Ty.agg30 ?_
  exact dq hbi rfl
 ·intro σ β w1 hE1 hbi hk
  have hz1 := hE1.size
  obtain ⟨_, hv152, rfl⟩ := kn hk 72 rfl rfl
  obtain ⟨_, hv153, rfl⟩ := kn hk 73 rfl rfl
  refine ⟨[(100, .agg (tcells qd10 (.slice a40 qd10.subs.length cap40)).toArray), (101, .agg (tcells qd10 (.slice a40 qd10.subs.length cap40)).toArray)], (ag hv152 (ag hv153 (agree_nil _))), ?_⟩
  refine WL.buildSlice (vs := [.agg (tcells qd10 (.slice a40 qd10.subs.length cap40)).toArray, .agg (tcells qd10 (.slice a40 qd10.subs.length cap40)).toArray]) (cells := (tcells qd10 (.slice a40 qd10.subs.length cap40) ++ tcells qd10 (.slice a40 qd10.subs.length cap40))) rfl rfl Ty.slice24 Ty.zero30 rfl rfl rfl rfl rfl rfl (fun b154 w159 hb155 hE158 hs156 hR157 => ?_)
  have hts154 := (NodesV.lit (n := 2) (ts := [qd10, qd10]) hR157 (RowsL.cons ((h127.ext hE1).ext hE158) (RowsL.cons ((h127.ext hE1).ext hE158) (RowsL.nil' _))) rfl rfl (by decide)).lt
  exact dqE hbi hE158 ⟨_, _, rfl, (hts154.dom (by intro k h1; refine ⟨trivial, ?_, h1.2⟩; replace h1 := h1.1; intro x hxm; have hi := hbi.hi x hxm; have lo := hbi.lo x hxm; (try dsimp only at h1); (repeat' first | (guard_hyp h1 : _ ∨ _; refine Or.elim h1 (fun h1 => ?_) (fun h1 => ?_)) | (guard_hyp h1 : _ ∧ _; have hx := h1.2; replace h1 := h1.1)) <;> first | contradiction | omega | exact hx.1 x hxm))⟩
 ·intro σ β w1 hE1 hbi hk
  have hz1 := hE1.size
  obtain ⟨_, hv152, a152, cap152, rfl, hts152⟩ := kn hk 74 rfl rfl
  have hts152 := hts152.lt
  have hlen152 := hts152.len
  refine ⟨[(102, .slice a152 (([qd10, qd10]).length) cap152)], (ag hv152 (agree_nil _)), ?_⟩
  refine WL.call rfl rfl rfl Ty.ent19 (node11_ok _ _ 3 _ _ ([qd10, qd10]) hts152) ?_
  rintro _ w155 ⟨l153, rfl, hr153, hE154⟩
  have hzhE154 := hE154.size
  refine ⟨_, rfl, ?_⟩
  have hn153 := hr153.lt
  obtain ⟨a153, cap153, rfl, hts153, hlen153⟩ := hn153.op2
  exact dqE hbi hE154 ⟨_, rfl, (hr153.lt.dom (by intro k h1; refine ⟨trivial, ?_, h1.2⟩; replace h1 := h1.1; intro x hxm; have hi := hbi.hi x hxm; have lo := hbi.lo x hxm; (try dsimp only at h1); (repeat' first | (guard_hyp h1 : _ ∨ _; refine Or.elim h1 (fun h1 => ?_) (fun h1 => ?_)) | (guard_hyp h1 : _ ∧ _; have hx := h1.2; replace h1 := h1.1)) <;> first | contradiction | omega | exact hx.1 x hxm))⟩
 ·intro σ β w1 hE1 hbi hk
  have hz1 := hE1.size
  refine ⟨[], (agree_nil _), ?_⟩
  refine WL.load_box rfl rfl rfl (h126.ext hE1) Ty.agg30 ?_
  exact dq hbi rfl
 ·intro σ β w1 hE1 hbi hk
  have hz1 := hE1.size
  obtain ⟨_, hv152, l152, rfl, hn152⟩ := kn hk 75 rfl rfl
  have hn152 := hn152.lt
  obtain ⟨a152, cap152, rfl, hts152, hlen152⟩ := hn152.op2
  obtain ⟨_, hv153, rfl⟩ := kn hk 76 rfl rfl
  refine ⟨[(103, .agg (tcells qd23 (.slice a152 qd23.subs.length cap152)).toArray), (104, .agg (tcells qd10 (.slice a40 qd10.subs.length cap40)).toArray)], (ag hv152 (ag hv153 (agree_nil _))), ?_⟩
  refine WL.build (l := (tcells qd23 (.slice a152 qd23.subs.length cap152) ++ tcells qd10 (.slice a40 qd10.subs.length cap40))) rfl rfl Ty.zero46 Ty.st46 ⟨⟨rfl, rfl⟩, (by kernel_rfl)⟩ ?_
  exact dq hbi ⟨(tcells qd23 (.slice a152 qd23.subs.length cap152)), (tcells qd10 (.slice a40 qd10.subs.length cap40)), rfl, (hn152.lt.dom (by intro k h1; refine ⟨trivial, ?_, h1.2⟩; replace h1 := h1.1; intro x hxm; have hi := hbi.hi x hxm; have lo := hbi.lo x hxm; (try dsimp only at h1); (repeat' first | (guard_hyp h1 : _ ∨ _; refine Or.elim h1 (fun h1 => ?_) (fun h1 => ?_)) | (guard_hyp h1 : _ ∧ _; have hx := h1.2; replace h1 := h1.1)) <;> first | contradiction | omega | exact hx.1 x hxm)), ((h127.ext hE1).lt.dom (by intro k h1; refine ⟨trivial, ?_, h1.2⟩; replace h1 := h1.1; intro x hxm; have hi := hbi.hi x hxm; have lo := hbi.lo x hxm; (try dsimp only at h1); (repeat' first | (guard_hyp h1 : _ ∨ _; refine Or.elim h1 (fun h1 => ?_) (fun h1 => ?_)) | (guard_hyp h1 : _ ∧ _; have hx := h1.2; replace h1 := h1.1)) <;> first | contradiction | omega | exact hx.1 x hxm))⟩
 ·intro σ β w1 hE1 hbi hk
  have hz1 := hE1.size
  refine ⟨[], (agree_nil _), ?_⟩
  refine WL.load_box rfl rfl rfl (h121.ext hE1) Ty.agg30 ?_
  exact dq hbi rfl
 ·intro σ β w1 hE1 hbi hk
  have hz1 := hE1.size
  obtain ⟨_, hv152, rfl⟩ := kn hk 78 rfl rfl
  refine ⟨[(106, .agg (tcells qd1 (.slice a1 qd1.subs.length cap1)).toArray)], (ag hv152 (agree_nil _)), ?_⟩
  refine WL.call rfl rfl rfl Ty.ent18 (rep11_ok _ _ _ qd1 0 1 (h118.ext hE1)) ?_
  rintro _ w155 ⟨l153, rfl, hr153, hE154⟩
  have hzhE154 := hE154.size
  refine ⟨_, rfl, ?_⟩
  have hn153 := hr153.lt
  obtain ⟨a153, cap153, rfl, hts153, hlen153⟩ := hn153.op2
  exact dqE hbi hE154 ⟨_, rfl, (hr153.lt.dom (by intro k h1; refine ⟨trivial, ?_, h1.2⟩; replace h1 := h1.1; intro x hxm; have hi := hbi.hi x hxm; have lo := hbi.lo x hxm; (try dsimp only at h1); (repeat' first | (guard_hyp h1 : _ ∨ _; refine Or.elim h1 (fun h1 => ?_) (fun h1 => ?_)) | (guard_hyp h1 : _ ∧ _; have hx := h1.2; replace h1 := h1.1)) <;> first | contradiction | omega | exact hx.1 x hxm))⟩
 ·intro σ β w1 hE1 hbi hk
  have hz1 := hE1.size
  obtain ⟨_, hv152, l152, rfl, hn152⟩ := kn hk 79 rfl rfl
  have hn152 := hn152.lt
  obtain ⟨a152, cap152, rfl, hts152, hlen152⟩ := hn152.op2
  refine ⟨[(107, .agg (tcells qd7 (.slice a152 qd7.subs.length cap152)).toArray)], (ag hv152 (agree_nil _)), ?_⟩
  refine WL.call rfl rfl rfl Ty.ent18 (rep11_ok _ _ _ qd7 2 2 hn152) ?_
  rintro _ w155 ⟨l153, rfl, hr153, hE154⟩
  have hzhE154 := hE154.size
  refine ⟨_, rfl, ?_⟩
  have hn153 := hr153.lt
  obtain ⟨a153, cap153, rfl, hts153, hlen153⟩ := hn153.op2
  exact dqE hbi hE154 ⟨_, rfl, (hr153.lt.dom (by intro k h1; refine ⟨trivial, ?_, h1.2⟩; replace h1 := h1.1; intro x hxm; have hi := hbi.hi x hxm; have lo := hbi.lo x hxm; (try dsimp only at h1); (repeat' first | (guard_hyp h1 : _ ∨ _; refine Or.elim h1 (fun h1 => ?_) (fun h1 => ?_)) | (guard_hyp h1 : _ ∧ _; have hx := h1.2; replace h1 := h1.1)) <;> first | contradiction | omega | exact hx.1 x hxm))⟩
 ·intro σ β w1 hE1 hbi hk
  have hz1 := hE1.size
  refine ⟨[], (agree_nil _), ?_⟩
  refine WL.load_box rfl rfl rfl (h121.ext hE1) Ty.agg30 ?_
  exact dq hbi rfl
 ·intro σ β w1 hE1 hbi hk
  have hz1 := hE1.size
  obtain ⟨_, hv152, rfl⟩ := kn hk 81 rfl rfl
  refine ⟨[(109, .agg (tcells qd1 (.slice a1 qd1.subs.length cap1)).toArray)], (ag hv152 (agree_nil _)), ?_⟩
  refine WL.call rfl rfl rfl Ty.ent18 (rep11_ok _ _ _ qd1 0 1 (h118.ext hE1)) ?_
  rintro _ w155 ⟨l153, rfl, hr153, hE154⟩
  have hzhE154 := hE154.size
  refine ⟨_, rfl, ?_⟩
  have hn153 := hr153.lt
  obtain ⟨a153, cap153, rfl, hts153, hlen153⟩ := hn153.op2
  exact dqE hbi hE154 ⟨_, rfl, (hr153.lt.dom (by intro k h1; refine ⟨trivial, ?_, h1.2⟩; replace h1 := h1.1; intro x hxm; have hi := hbi.hi x hxm; have lo := hbi.lo x hxm; (try dsimp only at h1); (repeat' first | (guard_hyp h1 : _ ∨ _; refine Or.elim h1 (fun h1 => ?_) (fun h1 => ?_)) | (guard_hyp h1 : _ ∧ _; have hx := h1.2; replace h1 := h1.1)) <;> first | contradiction | omega | exact hx.1 x hxm))⟩
 ·intro σ β w1 hE1 hbi hk
  have hz1 := hE1.size
  obtain ⟨_, hv152, l152, rfl, hn152⟩ := kn hk 82 rfl rfl
  have hn152 := hn152.lt
  obtain ⟨a152, cap152, rfl, hts152, hlen152⟩ := hn152.op2
  refine ⟨[(110, .agg (tcells qd7 (.slice a152 qd7.subs.length cap152)).toArray)], (ag hv152 (agree_nil _)), ?_⟩
  refine WL.call rfl rfl rfl Ty.ent18 (rep11_ok _ _ _ qd7 2 2 hn152) ?_
  rintro _ w155 ⟨l153, rfl, hr153, hE154⟩
  have hzhE154 := hE154.size
  refine ⟨_, rfl, ?_⟩
  have hn153 := hr153.lt
  obtain ⟨a153, cap153, rfl, hts153, hlen153⟩ := hn153.op2
  exact dqE hbi hE154 ⟨_, rfl, (hr153.lt.dom (by intro k h1; refine ⟨trivial, ?_, h1.2⟩; replace h1 := h1.1; intro x hxm; have hi := hbi.hi x hxm; have lo := hbi.lo x hxm; (try dsimp only at h1); (repeat' first | (guard_hyp h1 : _ ∨ _; refine Or.elim h1 (fun h1 => ?_) (fun h1 => ?_)) | (guard_hyp h1 : _ ∧ _; have hx := h1.2; replace h1 := h1.1)) <;> first | contradiction | omega | exact hx.1 x hxm))⟩
 ·intro σ β w1 hE1 hbi hk
  have hz1 := hE1.size
  obtain ⟨_, hv152, l152, rfl, hn152⟩ := kn hk 80 rfl rfl
  have hn152 := hn152.lt
  obtain ⟨a152, cap152, rfl, hts152, hlen152⟩ := hn152.op2
  obtain ⟨_, hv153, l153, rfl, hn153⟩ := kn hk 83 rfl rfl
  have hn153 := hn153.lt
  obtain ⟨a153, cap153, rfl, hts153, hlen153⟩ := hn153.op2
  refine ⟨[(108, .agg (tcells qd8 (.slice a152 qd8.subs.length cap152)).toArray), (111, .agg (tcells qd8 (.slice a153 qd8.subs.length cap153)).toArray)], (ag hv152 (ag hv153 (agree_nil _))), ?_⟩
  refine WL.build (l := (tcells qd8 (.slice a152 qd8.subs.length cap152) ++ tcells qd8 (.slice a153 qd8.subs.length cap153))) rfl rfl Ty.zero46 Ty.st46 ⟨⟨rfl, rfl⟩, (by kernel_rfl)⟩ ?_
  exact dq hbi ⟨(tcells qd8 (.slice a152 qd8.subs.length cap152)), (tcells qd8 (.slice a153 qd8.subs.length cap153)), rfl, (hn152.lt.dom (by intro k h1; refine ⟨trivial, ?_, h1.2⟩; replace h1 := h1.1; intro x hxm; have hi := hbi.hi x hxm; have lo := hbi.lo x hxm; (try dsimp only at h1); (repeat' first | (guard_hyp h1 : _ ∨ _; refine Or.elim h1 (fun h1 => ?_) (fun h1 => ?_)) | (guard_hyp h1 : _ ∧ _; have hx := h1.2; replace h1 := h1.1)) <;> first | contradiction | omega | exact hx.1 x hxm)), (hn153.lt.dom (by intro k h1; refine ⟨trivial, ?_, h1.2⟩; replace h1 := h1.1; intro x hxm; have hi := hbi.hi x hxm; have lo := hbi.lo x hxm; (try dsimp only at h1); (repeat' first | (guard_hyp h1 : _ ∨ _; refine Or.elim h1 (fun h1 => ?_) (fun h1 => ?_)) | (guard_hyp h1 : _ ∧ _; have hx := h1.2; replace h1 := h1.1)) <;> first | contradiction | omega | exact hx.1 x hxm))⟩
 ·intro σ β w1 hE1 hbi hk
  have hz1 := hE1.size
  obtain ⟨_, hv152, l152, l153, rfl, hn152, hn153⟩ := kn hk 6 rfl rfl
  have hn152 := hn152.lt
  have hn153 := hn153.lt
  obtain ⟨a152, cap152, rfl, hts152, hlen152⟩ := hn152.op2
  obtain ⟨a153, cap153, rfl, hts153, hlen153⟩ := hn153.op2
  obtain ⟨_, hv154, l154, l155, rfl, hn154, hn155⟩ := kn hk 13 rfl rfl
  have hn154 := hn154.lt
  have hn155 := hn155.lt
  obtain ⟨a154, cap154, rfl, hts154, hlen154⟩ := hn154.op2
  obtain ⟨a155, cap155, rfl, hts155, hlen155⟩ := hn155.op2
  obtain ⟨_, hv156, l156, l157, rfl, hn156, hn157⟩ := kn hk 17 rfl rfl
  have hn156 := hn156.lt
  have hn157 := hn157.lt
  obtain ⟨a156, cap156, rfl, hts156, hlen156⟩ := hn156.op2
  obtain ⟨a157, cap157, rfl, hts157, hlen157⟩ := hn157.op2
  obtain ⟨_, hv158, l158, l159, rfl, hn158, hn159⟩ := kn hk 29 rfl rfl
  have hn158 := hn158.lt
  have hn159 := hn159.lt
  obtain ⟨a158, cap158, rfl, hts158, hlen158⟩ := hn158.op2
  obtain ⟨a159, cap159, rfl, hts159, hlen159⟩ := hn159.op2
  obtain ⟨_, hv160, l160, l161, rfl, hn160, hn161⟩ := kn hk 40 rfl rfl
  have hn160 := hn160.lt
  have hn161 := hn161.lt
  obtain ⟨a160, cap160, rfl, hts160, hlen160⟩ := hn160.op2
  obtain ⟨a161, cap161, rfl, hts161, hlen161⟩ := hn161.op2
  obtain ⟨_, hv162, l162, l163, rfl, hn162, hn163⟩ := kn hk 50 rfl rfl
  have hn162 := hn162.lt
  have hn163 := hn163.lt
  obtain ⟨a162, cap162, rfl, hts162, hlen162⟩ := hn162.op2
  obtain ⟨a163, cap163, rfl, hts163, hlen163⟩ := hn163.op2
  obtain ⟨_, hv164, l164, l165, rfl, hn164, hn165⟩ := kn hk 61 rfl rfl
  have hn164 := hn164.lt
  have hn165 := hn165.lt
  obtain ⟨a164, cap164, rfl, hts164, hlen164⟩ := hn164.op2
  obtain ⟨a165, cap165, rfl, hts165, hlen165⟩ := hn165.op2
  obtain ⟨_, hv166, l166, l167, rfl, hn166, hn167⟩ := kn hk 71 rfl rfl
  have hn166 := hn166.lt
  have hn167 := hn167.lt
  obtain ⟨a166, cap166, rfl, hts166, hlen166⟩ := hn166.op2
  obtain ⟨a167, cap167, rfl, hts167, hlen167⟩ := hn167.op2
  obtain ⟨_, hv168, l168, l169, rfl, hn168, hn169⟩ := kn hk 77 rfl rfl
  have hn168 := hn168.lt
  have hn169 := hn169.lt
  obtain ⟨a168, cap168, rfl, hts168, hlen168⟩ := hn168.op2
  obtain ⟨a169, cap169, rfl, hts169, hlen169⟩ := hn169.op2
  obtain ⟨_, hv170, l170, l171, rfl, hn170, hn171⟩ := kn hk 84 rfl rfl
  have hn170 := hn170.lt
  have hn171 := hn171.lt
  obtain ⟨a170, cap170, rfl, hts170, hlen170⟩ := hn170.op2
  obtain ⟨a171, cap171, rfl, hts171, hlen171⟩ := hn171.op2
  refine ⟨[(34, .agg (tcells qd24 (.slice a152 qd24.subs.length cap152) ++ tcells qd5 (.slice a153 qd5.subs.length cap153)).toArray), (41, .agg (tcells qd14 (.slice a154 qd14.subs.length cap154) ++ tcells qd7 (.slice a155 qd7.subs.length cap155)).toArray), (45, .agg (tcells qd13 (.slice a156 qd13.subs.length cap156) ++ tcells qd10 (.slice a157 qd10.subs.length cap157)).toArray), (57, .agg (tcells qd19 (.slice a158 qd19.subs.length cap158) ++ tcells qd20 (.slice a159 qd20.subs.length cap159)).toArray), (68, .agg (tcells qd27 (.slice a160 qd27.subs.length cap160) ++ tcells qd21 (.slice a161 qd21.subs.length cap161)).toArray), (78, .agg (tcells qd25 (.slice a162 qd25.subs.length cap162) ++ tcells qd15 (.slice a163 qd15.subs.length cap163)).toArray), (89, .agg (tcells qd26 (.slice a164 qd26.subs.length cap164) ++ tcells qd26 (.slice a165 qd26.subs.length cap165)).toArray), (99, .agg (tcells qd28 (.slice a166 qd28.subs.length cap166) ++ tcells qd22 (.slice a167 qd22.subs.length cap167)).toArray), (105, .agg (tcells qd23 (.slice a168 qd23.subs.length cap168) ++ tcells qd10 (.slice a169 qd10.subs.length cap169)).toArray), (112, .agg (tcells qd8 (.slice a170 qd8.subs.length cap170) ++ tcells qd8 (.slice a171 qd8.subs.length cap171)).toArray)], (ag hv152 (ag hv154 (ag hv156 (ag hv158 (ag hv160 (ag hv162 (ag hv164 (ag hv166 (ag hv168 (ag hv170 (agree_nil _))))))))))), ?_⟩
  refine WL.buildSlice (vs := [.agg #[.int .u8 qd24.kind, .int .u64 qd24.set.a, .int .u64 qd24.set.b, .int .u64 qd24.set.c, .int .u64 qd24.set.d, .int .i64 qd24.least, .int .i64 qd24.most, .slice a152 qd24.subs.length cap152, .int .u8 qd5.kind, .int .u64 qd5.set.a, .int .u64 qd5.set.b, .int .u64 qd5.set.c, .int .u64 qd5.set.d, .int .i64 qd5.least, .int .i64 qd5.most, .slice a153 qd5.subs.length cap153], .agg #[.int .u8 qd14.kind, .int .u64 qd14.set.a, .int .u64 qd14.set.b, .int .u64 qd14.set.c, .int .u64 qd14.set.d, .int .i64 qd14.least, .int .i64 qd14.most, .slice a154 qd14.subs.length cap154, .int .u8 qd7.kind, .int .u64 qd7.set.a, .int .u64 qd7.set.b, .int .u64 qd7.set.c, .int .u64 qd7.set.d, .int .i64 qd7.least, .int .i64 qd7.most, .slice a155 qd7.subs.length cap155], .agg #[.int .u8 qd13.kind, .int .u64 qd13.set.a, .int .u64 qd13.set.b, .int .u64 qd13.set.c, .int .u64 qd13.set.d, .int .i64 qd13.least, .int .i64 qd13.most, .slice a156 qd13.subs.length cap156, .int .u8 qd10.kind, .int .u64 qd10.set.a, .int .u64 qd10.set.b, .int .u64 qd10.set.c, .int .u64 qd10.set.d, .int .i64 qd10.least, .int .i64 qd10.most, .slice a157 qd10.subs.length cap157], .agg #[.int .u8 qd19.kind, .int .u64 qd19.set.a, .int .u64 qd19.set.b, .int .u64 qd19.set.c, .int .u64 qd19.set.d, .int .i64 qd19.least, .int .i64 qd19.most, .slice a158 qd19.subs.length cap158, .int .u8 qd20.kind, .int .u64 qd20.set.a, .int .u64 qd20.set.b, .int .u64 qd20.set.c, .int .u64 qd20.set.d, .int .i64 qd20.least, .int .i64 qd20.most, .slice a159 qd20.subs.length cap159], .agg #[.int .u8 qd27.kind, .int .u64 qd27.set.a, .int .u64 qd27.set.b, .int .u64 qd27.set.c, .int .u64 qd27.set.d, .int .i64 qd27.least, .int .i64 qd27.most, .slice a160 qd27.subs.length cap160, .int .u8 qd21.kind, .int .u64 qd21.set.a, .int .u64 qd21.set.b, .int .u64 qd21.set.c, .int .u64 qd21.set.d, .int .i64 qd21.least, .int .i64 qd21.most, .slice a161 qd21.subs.length cap161], .agg #[.int .u8 qd25.kind, .int .u64 qd25.set.a, .int .u64 qd25.set.b, .int .u64 qd25.set.c, .int .u64 qd25.set.d, .int .i64 qd25.least, .int .i64 qd25.most, .slice a162 qd25.subs.length cap162, .int .u8 qd15.kind, .int .u64 qd15.set.a, .int .u64 qd15.set.b, .int .u64 qd15.set.c, .int .u64 qd15.set.d, .int .i64 qd15.least, .int .i64 qd15.most, .slice a163 qd15.subs.length cap163], .agg #[.int .u8 qd26.kind, .int .u64 qd26.set.a, .int .u64 qd26.set.b, .int .u64 qd26.set.c, .int .u64 qd26.set.d, .int .i64 qd26.least, .int .i64 qd26.most, .slice a164 qd26.subs.length cap164, .int .u8 qd26.kind, .int .u64 qd26.set.a, .int .u64 qd26.set.b, .int .u64 qd26.set.c, .int .u64 qd26.set.d, .int .i64 qd26.least, .int .i64 qd26.most, .slice a165 qd26.subs.length cap165], .agg #[.int .u8 qd28.kind, .int .u64 qd28.set.a, .int .u64 qd28.set.b, .int .u64 qd28.set.c, .int .u64 qd28.set.d, .int .i64 qd28.least, .int .i64 qd28.most, .slice a166 qd28.subs.length cap166, .int .u8 qd22.kind, .int .u64 qd22.set.a, .int .u64 qd22.set.b, .int .u64 qd22.set.c, .int .u64 qd22.set.d, .int .i64 qd22.least, .int .i64 qd22.most, .slice a167 qd22.subs.length cap167], .agg #[.int .u8 qd23.kind, .int .u64 qd23.set.a, .int .u64 qd23.set.b, .int .u64 qd23.set.c, .int .u64 qd23.set.d, .int .i64 qd23.least, .int .i64 qd23.most, .slice a168 qd23.subs.length cap168, .int .u8 qd10.kind, .int .u64 qd10.set.a, .int .u64 qd10.set.b, .int .u64 qd10.set.c, .int .u64 qd10.set.d, .int .i64 qd10.least, .int .i64 qd10.most, .slice a169 qd10.subs.length cap169], .agg #[.int .u8 qd8.kind, .int .u64 qd8.set.a, .int .u64 qd8.set.b, .int .u64 qd8.set.c, .int .u64 qd8.set.d, .int .i64 qd8.least, .int .i64 qd8.most, .slice a170 qd8.subs.length cap170, .int .u8 qd8.kind, .int .u64 qd8.set.a, .int .u64 qd8.set.b, .int .u64 qd8.set.c, .int .u64 qd8.set.d, .int .i64 qd8.least, .int .i64 qd8.most, .slice a171 qd8.subs.length cap171]]) (cells := [.int .u8 qd24.kind, .int .u64 qd24.set.a, .int .u64 qd24.set.b, .int .u64 qd24.set.c, .int .u64 qd24.set.d, .int .i64 qd24.least, .int .i64 qd24.most, .slice a152 qd24.subs.length cap152, .int .u8 qd5.kind, .int .u64 qd5.set.a, .int .u64 qd5.set.b, .int .u64 qd5.set.c, .int .u64 qd5.set.d, .int .i64 qd5.least, .int .i64 qd5.most, .slice a153 qd5.subs.length cap153, .int .u8 qd14.kind, .int .u64 qd14.set.a, .int .u64 qd14.set.b, .int .u64 qd14.set.c, .int .u64 qd14.set.d, .int .i64 qd14.least, .int .i64 qd14.most, .slice a154 qd14.subs.length cap154, .int .u8 qd7.kind, .int .u64 qd7.set.a, .int .u64 qd7.set.b, .int .u64 qd7.set.c, .int .u64 qd7.set.d, .int .i64 qd7.least, .int .i64 qd7.most, .slice a155 qd7.subs.length cap155, .int .u8 qd13.kind, .int .u64 qd13.set.a, .int .u64 qd13.set.b, .int .u64 qd13.set.c, .int .u64 qd13.set.d, .int .i64 qd13.least, .int .i64 qd13.most, .slice a156 qd13.subs.length cap156, .int .u8 qd10.kind, .int .u64 qd10.set.a, .int .u64 qd10.set.b, .int .u64 qd10.set.c, .int .u64 qd10.set.d, .int .i64 qd10.least, .int .i64 qd10.most, .slice a157 qd10.subs.length cap157, .int .u8 qd19.kind, .int .u64 qd19.set.a, .int .u64 qd19.set.b, .int .u64 qd19.set.c, .int .u64 qd19.set.d, .int .i64 qd19.least, .int .i64 qd19.most, .slice a158 qd19.subs.length cap158, .int .u8 qd20.kind, .int .u64 qd20.set.a, .int .u64 qd20.set.b, .int .u64 qd20.set.c, .int .u64 qd20.set.d, .int .i64 qd20.least, .int .i64 qd20.most, .slice a159 qd20.subs.length cap159, .int .u8 qd27.kind, .int .u64 qd27.set.a, .int .u64 qd27.set.b, .int .u64 qd27.set.c, .int .u64 qd27.set.d, .int .i64 qd27.least, .int .i64 qd27.most, .slice a160 qd27.subs.length cap160, .int .u8 qd21.kind, .int .u64 qd21.set.a, .int .u64 qd21.set.b, .int .u64 qd21.set.c, .int .u64 qd21.set.d, .int .i64 qd21.least, .int .i64 qd21.most, .slice a161 qd21.subs.length cap161, .int .u8 qd25.kind, .int .u64 qd25.set.a, .int .u64 qd25.set.b, .int .u64 qd25.set.c, .int .u64 qd25.set.d, .int .i64 qd25.least, .int .i64 qd25.most, .slice a162 qd25.subs.length cap162, .int .u8 qd15.kind, .int .u64 qd15.set.a, .int .u64 qd15.set.b, .int .u64 qd15.set.c, .int .u64 qd15.set.d, .int .i64 qd15.least, .int .i64 qd15.most, .slice a163 qd15.subs.length cap163, .int .u8 qd26.kind, .int .u64 qd26.set.a, .int .u64 qd26.set.b, .int .u64 qd26.set.c, .int .u64 qd26.set.d, .int .i64 qd26.least, .int .i64 qd26.most, .slice a164 qd26.subs.length cap164, .int .u8 qd26.kind, .int .u64 qd26.set.a, .int .u64 qd26.set.b, .int .u64 qd26.set.c, .int .u64 qd26.set.d, .int .i64 qd26.least, .int .i64 qd26.most, .slice a165 qd26.subs.length cap165, .int .u8 qd28.kind, .int .u64 qd28.set.a, .int .u64 qd28.set.b, .int .u64 qd28.set.c, .int .u64 qd28.set.d, .int .i64 qd28.least, .int .i64 qd28.most, .slice a166 qd28.subs.length cap166, .int .u8 qd22.kind, .int .u64 qd22.set.a, .int .u64 qd22.set.b, .int .u64 qd22.set.c, .int .u64 qd22.set.d, .int .i64 qd22.least, .int .i64 qd22.most, .slice a167 qd22.subs.length cap167, .int .u8 qd23.kind, .int .u64 qd23.set.a, .int .u64 qd23.set.b, .int .u64 qd23.set.c, .int .u64 qd23.set.d, .int .i64 qd23.least, .int .i64 qd23.most, .slice a168 qd23.subs.length cap168, .int .u8 qd10.kind, .int .u64 qd10.set.a, .int .u64 qd10.set.b, .int .u64 qd10.set.c, .int .u64 qd10.set.d, .int .i64 qd10.least, .int .i64 qd10.most, .slice a169 qd10.subs.length cap169, .int .u8 qd8.kind, .int .u64 qd8.set.a, .int .u64 qd8.set.b, .int .u64 qd8.set.c, .int .u64 qd8.set.d, .int .i64 qd8.least, .int .i64 qd8.most, .slice a170 qd8.subs.length cap170, .int .u8 qd8.kind, .int .u64 qd8.set.a, .int .u64 qd8.set.b, .int .u64 qd8.set.c, .int .u64 qd8.set.d, .int .i64 qd8.least, .int .i64 qd8.most, .slice a171 qd8.subs.length cap171]) rfl rfl Ty.slice47 Ty.zero46 rfl rfl rfl rfl rfl rfl (fun b172 w177 hb173 hE176 hs174 hR175 => ?_)
  have hts172 := (NodesV.lit (n := 20) (ts := [qd24, qd5, qd14, qd7, qd13, qd10, qd19, qd20, qd27, qd21, qd25, qd15, qd26, qd26, qd28, qd22, qd23, qd10, qd8, qd8]) hR175 (RowsL.cons (hn152.ext hE176) (RowsL.cons (hn153.ext hE176) (RowsL.cons (hn154.ext hE176) (RowsL.cons (hn155.ext hE176) (RowsL.cons (hn156.ext hE176) (RowsL.cons (hn157.ext hE176) (RowsL.cons (hn158.ext hE176) (RowsL.cons (hn159.ext hE176) (RowsL.cons (hn160.ext hE176) (RowsL.cons (hn161.ext hE176) (RowsL.cons (hn162.ext hE176) (RowsL.cons (hn163.ext hE176) (RowsL.cons (hn164.ext hE176) (RowsL.cons (hn165.ext hE176) (RowsL.cons (hn166.ext hE176) (RowsL.cons (hn167.ext hE176) (RowsL.cons (hn168.ext hE176) (RowsL.cons (hn169.ext hE176) (RowsL.cons (hn170.ext hE176) (RowsL.cons (hn171.ext hE176) (RowsL.nil' _))))))))))))))))))))) rfl rfl (by decide)).lt
  exact dqE hbi hE176 ⟨_, rfl, (hts172.dom (by intro k h1; refine ⟨trivial, ?_, h1.2⟩; replace h1 := h1.1; intro x hxm; have hi := hbi.hi x hxm; have lo := hbi.lo x hxm; (try dsimp only at h1); (repeat' first | (guard_hyp h1 : _ ∨ _; refine Or.elim h1 (fun h1 => ?_) (fun h1 => ?_)) | (guard_hyp h1 : _ ∧ _; have hx := h1.2; replace h1 := h1.1)) <;> first | contradiction | omega | exact hx.1 x hxm))⟩
 ·intro σ β w1 hE1 hbi hk
  have hz1 := hE1.size
  obtain ⟨_, hv152, b152, rfl, hts152⟩ := kn hk 85 rfl rfl
  have hts152 := hts152.lt
  refine ⟨[(113, .slice (some ⟨b152, 0, none⟩) 10 10)], (ag hv152 (agree_nil _)), ?_⟩
  refine WL.len rfl rfl Try.underlying47 rfl ?_
  exact dq hbi rfl
 ·intro σ β w1 hE1 hbi hk
  have hz1 := hE1.size
  refine ⟨[], (agree_nil _), ?_⟩
  refine WL.move rfl rfl rfl ?_
  exact dq hbi rfl
 intro σ β w132 hE132 hbi132 hk
 have hz132 := hE132.size
 have hbi := hbi132
 obtain ⟨_, hv133, b133, rfl, hts133⟩ := hk 85 (by decide) _ _ rfl rfl
 have hts133 := hts133.lt
 obtain ⟨_, hv134, rfl⟩ := hk 86 (by decide) _ _ rfl rfl
 obtain ⟨_, hv135, rfl⟩ := hk 87 (by decide) _ _ rfl rfl
 refine WL.know [(113, .slice (some ⟨b133, 0, none⟩) 10 10), (114, .int .i64 10), (115, .int .i64 0)] (ag hv133 (ag hv134 (ag hv135 (agree_nil _)))) ?_
 refine WL.dn ?_
 refine WC.block ?_
 have hpb : Nd.pairsB [qd24, qd5, qd14, qd7, qd13, qd10, qd19, qd20, qd27, qd21, qd25, qd15, qd26, qd26, qd28, qd22, qd23, qd10, qd8, qd8] = true := by kernel_rfl
 have hts0 := hts133
 have hll : List.length [qd24, qd5, qd14, qd7, qd13, qd10, qd19, qd20, qd27, qd21, qd25, qd15, qd26, qd26, qd28, qd22, qd23, qd10, qd8, qd8] = 20 := rfl
 generalize [qd24, qd5, qd14, qd7, qd13, qd10, qd19, qd20, qd27, qd21, qd25, qd15, qd26, qd26, qd28, qd22, qd23, qd10, qd8, qd8] = LS at hpb hts0 hll
 refine WC.weaken (r' := [(4, pt b43 0), (7, pt b109 0), (113, .slice (some ⟨b133, 0, none⟩) 10 10), (114, .int .i64 10), (115, .int .i64 0)]) (sr rfl (sr rfl (sr rfl (sr rfl (sr rfl (subReg_nil _)))))) ?_
 refine WC.loop (σ := Nat) (fun k r_ w_ => r_ = [(4, pt b43 0), (7, pt b109 0), (113, .slice (some ⟨b133, 0, none⟩) 10 10), (114, .int .i64 10), (115, .int .i64 (k : Int))] ∧ Ext w132 w_ ∧ k ≤ 10) (fun k => 10 - k) 0 ⟨rfl, (Ext.refl _), Nat.zero_le _⟩ ?_
 rintro k r_ w138 ⟨rfl, hE136, hI137⟩
 have hzhE136 := hE136.size
 have hk := hI137
 refine WC.seqk ?_
 refine WC.region ?_
 cases hc139 : decide (((k : Int) : Int) < 10) with
 | false =>
  refine WL.lss rfl rfl rfl rfl hc139 ?_
  have hp139 := of_decide_eq_false hc139
  refine WL.dn ?_
  refine WC.seqk ?_
  refine WC.cond_f rfl ?_
  refine WC.exit (fun a_ ha => ?_)
  refine exit_then ?_
  refine exit_then ?_
  refine exit_here ?_
  refine WC.at ?_ ha
  refine WC.seqk ?_
  refine WC.region ?_
  have h140 := ((h126.ext hE132).ext hE136)
  refine WL.load_box rfl rfl rfl h140 Ty.agg30 ?_
  have h141 := ((h127.ext hE132).ext hE136)
  refine WL.call rfl rfl rfl Ty.ent8 (Plain_ok _ _ _ qd10 h141) ?_
  rintro _ w143 ⟨he, hE142⟩
  have hq : (Nd.clean qd10 && Nd.plain qd10) = true := (by kernel_rfl)
  rw [hq] at he
  subst he
  clear hq
  have hzhE142 := hE142.size
  refine ⟨_, rfl, ?_⟩
  refine WL.move rfl rfl rfl ?_
  have h144 := (((hR115.ext hE132).ext hE136).ext hE142)
  refine WL.load_box rfl rfl rfl h144 Ty.agg30 ?_
  have h145 := (((h120.ext hE132).ext hE136).ext hE142)
  refine WL.call rfl rfl rfl Ty.ent8 (Plain_ok _ _ _ qd9 h145) ?_
  rintro _ w147 ⟨he, hE146⟩
  have hq : (Nd.clean qd9 && Nd.plain qd9) = false := (by kernel_rfl)
  rw [hq] at he
  subst he
  clear hq
  have hzhE146 := hE146.size
  refine ⟨_, rfl, ?_⟩
  refine WL.not rfl rfl rfl ?_
  refine WL.pick_t rfl rfl rfl rfl ?_
  refine WL.move rfl rfl rfl ?_
  have h148 := ((h140.ext hE142).ext hE146)
  refine WL.load_box rfl rfl rfl h148 Ty.agg30 ?_
  have h149 := ((h141.ext hE142).ext hE146)
  refine WL.call rfl rfl rfl Ty.ent14 (Nullable_ok _ _ _ qd10 h149) ?_
  rintro _ w151 ⟨he, hE150⟩
  have hq : (Nd.clean qd10 && Nd.nullable qd10) = true := (by kernel_rfl)
  rw [hq] at he
  subst he
  clear hq
  have hzhE150 := hE150.size
  refine ⟨_, rfl, ?_⟩
  refine WL.pick_t rfl rfl rfl rfl ?_
  refine WL.move rfl rfl rfl ?_
  have h152 := ((h144.ext hE146).ext hE150)
  refine WL.load_box rfl rfl rfl h152 Ty.agg30 ?_
  have h153 := ((h145.ext hE146).ext hE150)
  refine WL.call rfl rfl rfl Ty.ent14 (Nullable_ok _ _ _ qd9 h153) ?_
  rintro _ w155 ⟨he, hE154⟩
  have hq : (Nd.clean qd9 && Nd.nullable qd9) = false := (by kernel_rfl)
  rw [hq] at he
  subst he
  clear hq
  have hzhE154 := hE154.size
  refine ⟨_, rfl, ?_⟩
  refine WL.not rfl rfl rfl ?_
  refine WL.pick_t rfl rfl rfl rfl ?_
  refine WL.assign rfl rfl rfl ?_
  refine WL.dn ?_
  refine WC.ret (fun a_ ha => ?_)
  exact bodyPost_tmp rfl ha rfl ⟨rfl, (((((((hB116.onto ((((hB96.onto (hB93.onto (((((((((hB50.onto (((hB35.onto (hB31.onto (hB27.onto ((((hE2.trans hE5).trans hE12).trans hE18).trans hE24) (by omega)) (by omega)) (by omega)).trans hE41).trans hE47) (by omega)).trans hE60).trans hE63).trans hE66).trans hE69).trans hE75).trans hE78).trans hE84).trans hE90) (by omega)) (by omega)).trans hE104).trans hE107).trans hE113) (by omega)).trans hE132).trans hE136).trans hE142).trans hE146).trans hE150).trans hE154)⟩
 | true =>
  refine WL.lss rfl rfl rfl rfl hc139 ?_
  have hp139 := of_decide_eq_true hc139
  refine WL.dn ?_
  refine WC.seqk ?_
  refine WC.cond_t rfl ?_
  refine WC.sk ?_
  refine WC.seqk ?_
  refine WC.block ?_
  refine WC.seqk ?_
  refine WC.region ?_
  obtain ⟨t140, ht140⟩ : ∃ t, LS[2 * k]? = some t := ⟨_, List.getElem?_eq_getElem (by omega)⟩
  obtain ⟨t141, ht141⟩ : ∃ t, LS[2 * k + 1]? = some t := ⟨_, List.getElem?_eq_getElem (by omega)⟩
  obtain ⟨l140, l141, hD140, her140, hn140, hn141⟩ := (hts0.ext hE136).pair ht140 ht141
  obtain ⟨a140, cap140, rfl, hts140, hlen140⟩ := hn140.op2
  obtain ⟨a141, cap141, rfl, hts141, hlen141⟩ := hn141.op2
  refine WL.indexAddr (i := k) rfl rfl Ty.slice47 rfl rfl rfl (by omega) ?_
  refine WL.load_agg (l := tcells t140 (.slice a140 t140.subs.length cap140) ++ tcells t141 (.slice a141 t141.subs.length cap141)) rfl rfl Ty.agg46 rfl her140 ?_
  refine WL.alloc rfl rfl Ty.zero46 rfl (fun b142 w147 hb143 hE146 hs144 hR145 => ?_)
  refine WL.store_box rfl rfl rfl hR145 Ty.agg46 rfl rfl (fun w150 hB149 hR148 => ?_)
  have hzhB149 := hB149.size
  refine WL.dn ?_
  refine WC.seqk ?_
  refine WC.region ?_
  refine WL.fieldAddr rfl rfl Ty.fld46_0 rfl ?_
  refine WL.load_part 8 rfl rfl rfl hR148 rfl Ty.agg30 ?_
  have hpk := Nd.pairB_all (Nd.pairsB_at hpb ht140 ht141)
  have h152 := ((hn140.ext hE146).bu hB149)
  refine WL.call rfl rfl rfl Ty.ent9 (Norm_okC h152 hpk.1 hpk.2.1 hpk.2.2.1) ?_
  rintro _ w154 ⟨l151, rfl, hr151, hE153⟩
  have hzhE153 := hE153.size
  refine ⟨_, rfl, ?_⟩
  have hn151 := hr151.lt
  obtain ⟨a151, cap151, rfl, hts151, hlen151⟩ := hn151.op2
  refine WL.move rfl rfl rfl ?_
  refine WL.extract rfl rfl rfl rfl ?_
  refine WL.extract rfl rfl rfl rfl ?_
  refine WL.alloc rfl rfl Ty.zero30 rfl (fun b155 w160 hb156 hE159 hs157 hR158 => ?_)
  refine WL.store_box rfl rfl rfl hR158 Ty.agg30 rfl rfl (fun w163 hB162 hR161 => ?_)
  have hzhB162 := hB162.size
  refine WL.assign rfl rfl rfl ?_
  refine WL.dn ?_
  refine WC.seqk ?_
  refine WC.region ?_
  refine WL.move rfl rfl rfl ?_
  refine WL.neq rfl rfl rfl rfl rfl ?_
  refine WL.move rfl rfl rfl ?_
  refine WL.load_box rfl rfl rfl hR161 Ty.agg30 ?_
  refine WL.fieldAddr rfl rfl Ty.fld46_1 rfl ?_
  have h164 := (hB162.row ((hR148.ext hE153).ext hE159) (by omega))
  refine WL.load_part 8 rfl rfl rfl h164 rfl Ty.agg30 ?_
  have h165 := ((hn151.ext hE159).bu hB162)
  have h166 := (((((hn141.ext hE146).bu hB149).ext hE153).ext hE159).bu hB162)
  refine WL.call rfl rfl rfl Ty.ent11 (Same_ok _ _ _ _ _ (Nd.norm t140) t141 h165 h166) ?_
  rintro _ w168 ⟨he, hE167⟩
  have hq : (Nd.light (Nd.norm t140) && Nd.light t141 && Nd.same (Nd.norm t140) t141) = true := hpk.2.2.2.2
  rw [hq] at he
  subst he
  clear hq
  have hzhE167 := hE167.size
  refine ⟨_, rfl, ?_⟩
  refine WL.not rfl rfl rfl ?_
  refine WL.pick_f rfl rfl rfl rfl ?_
  refine WL.dn ?_
  refine WC.cond_f rfl ?_
  refine WC.sk ?_
  refine WC.region ?_
  refine WL.add (v := (k : Int) + 1) rfl rfl rfl rfl (IntWalk.i64_in _ (by omega)) ?_
  refine WL.move rfl rfl rfl ?_
  refine WL.nil (fun a_ ha => ?_)
  exact ⟨k + 1, _, ha.weaken (sr rfl (sr rfl (sr rfl (sr rfl (sr rfl (subReg_nil _)))))), ⟨rfl, ((hB162.onto (((hB149.onto (hE136.trans hE146) (by omega)).trans hE153).trans hE159) (by omega)).trans hE167), by omega⟩, by first | omega | (dsimp only; omega)⟩
end Go.Proofs.Yteenegaadlhjdaa
namespace Go.Proofs.Yteenegaadlhjdaa
namespace Nd
theorem capture_eq {t : Nd} (h : t.nice = true) (hs : t.size ≤ 9000) : capture t = mk 6 zero 0 0 [t] := by
  have hn := group_nice h
  have hz : (mk 6 zero 0 0 [t]).size = 1 + t.size := by simp [size_mk, sizeL]
  unfold capture checked
  rw [nice_clean hn (by omega)]; rfl
theorem norm_group (t : Nd) : norm (mk 6 zero 0 0 [t]) = capture (norm t) := by
  rw [norm_eq]; rfl
theorem group_plain (t : Nd) : (mk 6 zero 0 0 [t]).plain = false := by rw [plain_eq]; rfl
theorem merged_none {x y : Nd} (h : x.plain = false) : merged x y = .none := by
  unfold merged; rw [h]; rfl
theorem seq_groups {x y : Nd} (hx : x.nice = true) (hy : y.nice = true) (sx : x.size ≤ 900) (sy : y.size ≤ 900) : seq [mk 6 zero 0 0 [x], mk 6 zero 0 0 [y], mk 6 zero 0 0 [x]] = mk 3 zero 0 0 [mk 6 zero 0 0 [x], mk 6 zero 0 0 [y], mk 6 zero 0 0 [x]] := by
  have zx : (mk 6 zero 0 0 [x]).size = 1 + x.size := by simp [size_mk, sizeL]
  have zy : (mk 6 zero 0 0 [y]).size = 1 + y.size := by simp [size_mk, sizeL]
  rw [seq_eq (fun t ht => by
    simp only [List.mem_cons, List.not_mem_nil, or_false] at ht
    rcases ht with rfl | rfl | rfl
    · exact ⟨group_nice hx, by omega⟩
    · exact ⟨group_nice hy, by omega⟩
    · exact ⟨group_nice hx, by omega⟩) (by simp only [sizeL]; omega)]
  rfl
theorem or_groups {x y : Nd} (hx : x.nice = true) (hy : y.nice = true) (sx : x.size ≤ 900) (sy : y.size ≤ 900) : or [mk 6 zero 0 0 [x], mk 6 zero 0 0 [y], mk 6 zero 0 0 [x]] = mk 4 zero 0 0 [mk 6 zero 0 0 [x], mk 6 zero 0 0 [y], mk 6 zero 0 0 [x]] := by
  have zx : (mk 6 zero 0 0 [x]).size = 1 + x.size := by simp [size_mk, sizeL]
  have zy : (mk 6 zero 0 0 [y]).size = 1 + y.size := by simp [size_mk, sizeL]
  rw [or_eq (fun t ht => by
    simp only [List.mem_cons, List.not_mem_nil, or_false] at ht
    rcases ht with rfl | rfl | rfl
    · exact .inl ⟨group_nice hx, by omega⟩
    · exact .inl ⟨group_nice hy, by omega⟩
    · exact .inl ⟨group_nice hx, by omega⟩) (by simp only [sizeL]; omega)]
  rfl
theorem norm_seq_groups {a b : Nd} (ha : Ok3 a) (hb : Ok3 b) (sa : a.size ≤ 300) (sb : b.size ≤ 300) :
    norm (seq [capture a, capture b, capture a]) = seq [capture (norm a), capture (norm b), capture (norm a)] := by
  have na := norm_main a ha (by omega)
  have nb := norm_main b hb (by omega)
  rw [capture_eq ha.1 (by omega), capture_eq hb.1 (by omega), capture_eq na.1.1 (by omega), capture_eq nb.1.1 (by omega)]
  rw [seq_groups ha.1 hb.1 (by omega) (by omega), norm_eq]
  show cat [norm (mk 6 zero 0 0 [a]), norm (mk 6 zero 0 0 [b]), norm (mk 6 zero 0 0 [a])] = _
  rw [norm_group, norm_group, capture_eq na.1.1 (by omega), capture_eq nb.1.1 (by omega)]
  unfold cat
  rw [seq_groups na.1.1 nb.1.1 (by omega) (by omega)]
  refine catF_none ?_
  show mstep [mk 6 zero 0 0 [norm a], mk 6 zero 0 0 [norm b], mk 6 zero 0 0 [norm a]] = .none
  simp only [mstep, merged_none (group_plain (norm a)), merged_none (group_plain (norm b)), Option.map_none]
theorem norm_or_groups {a b : Nd} (ha : Ok3 a) (hb : Ok3 b) (sa : a.size ≤ 300) (sb : b.size ≤ 300) :
    norm (or [capture a, capture b, capture a]) = or [capture (norm a), capture (norm b), capture (norm a)] := by
  have na := norm_main a ha (by omega)
  have nb := norm_main b hb (by omega)
  rw [capture_eq ha.1 (by omega), capture_eq hb.1 (by omega), capture_eq na.1.1 (by omega), capture_eq nb.1.1 (by omega)]
  rw [or_groups ha.1 hb.1 (by omega) (by omega), norm_eq]
  show alt [norm (mk 6 zero 0 0 [a]), norm (mk 6 zero 0 0 [b]), norm (mk 6 zero 0 0 [a])] = _
  rw [norm_group, norm_group, capture_eq na.1.1 (by omega), capture_eq nb.1.1 (by omega)]
  have hor := or_groups na.1.1 nb.1.1 (by omega) (by omega)
  unfold alt
  rw [hor]
  have hp : (mk 4 zero 0 0 [mk 6 zero 0 0 [norm a], mk 6 zero 0 0 [norm b], mk 6 zero 0 0 [norm a]]).plain = false := by
    rw [plain_eq]; simp [subs, group_plain]
  rw [hp]
  show captured [mk 6 zero 0 0 [norm a], mk 6 zero 0 0 [norm b], mk 6 zero 0 0 [norm a]] = _
  have hc : capL [mk 6 zero 0 0 [norm a], mk 6 zero 0 0 [norm b], mk 6 zero 0 0 [norm a]] = [mk 6 zero 0 0 [norm a], mk 6 zero 0 0 [norm b], mk 6 zero 0 0 [norm a]] := by
    simp [capL, capStep, group_plain]
  unfold captured
  rw [hc, hor]
end Nd
end Go.Proofs.Yteenegaadlhjdaa
namespace Go.Proofs.Yteenegaadlhjdaa
namespace Nd
theorem null1 {t : Nd} (h : t.kind = 1) : t.nullable = true := by rw [nullable_eq, h]; rfl
theorem null2 {t : Nd} (h : t.kind = 2) : t.nullable = false := by rw [nullable_eq, h]; rfl
theorem null3 {t : Nd} (h : t.kind = 3) : t.nullable = t.subs.all nullable := by
  rw [nullable_eq, h]
  show (!t.subs.any fun x => !x.nullable) = _
  induction t.subs with
  | nil => rfl
  | cons x l ih => simp only [List.any_cons, List.all_cons, Bool.not_or, Bool.not_not, ih]
theorem null4 {t : Nd} (h : t.kind = 4) : t.nullable = t.subs.any nullable := by rw [nullable_eq, h]; rfl
theorem null5 {t u : Nd} (h : t.kind = 5) (hu : t.subs[0]? = some u) : t.nullable = ((t.least == 0) || u.nullable) := by
  rw [nullable_eq, h, headN_at hu]; rfl
theorem null6 (t : Nd) : (mk 6 zero 0 0 [t]).nullable = t.nullable := by
  rw [nullable_eq]
  show (!List.any [t] fun x => !x.nullable) = _
  simp
theorem times_null {n : Nd} {mn mx : Int} (h : Ok3 n) (hs : n.size ≤ 9000) (hb : bounds mn mx = true) : (times n mn mx).nullable = ((mn == 0) || n.nullable) := by
  have hc := nice_clean h.1 (by omega)
  have hg : n.good = true := by unfold good; rw [hc]; simp
  have hk := nice_kind h.1
  have hk0 : (n.kind == 0) = false := beq_eq_false_iff_ne.2 (by omega)
  unfold times
  dsimp only
  rw [hg, hb, hk0]
  simp only [Bool.not_true, Bool.and_false, Bool.or_false, Bool.false_and, cond_false]
  cases hz : ((mn == 0) && (mx == 0)) || (n.kind == 1)
  · simp only [cond_false]
    rw [Bool.or_eq_false_iff] at hz
    have hk1 : n.kind ≠ 1 := beq_eq_false_iff_ne.1 hz.2
    cases ho : (mn == 1) && (mx == 1)
    · simp only [cond_false]
      have hn := rep_nice h.1 hk1 hb
      have hcl : (mk 5 zero mn mx [n]).clean = true := nice_clean hn (by simp [size_mk, sizeL]; omega)
      unfold checked
      rw [hcl]
      exact null5 (t := mk 5 zero mn mx [n]) rfl rfl
    · simp only [cond_true]
      simp only [Bool.and_eq_true, beq_iff_eq] at ho
      rw [ho.1]; rfl
  · simp only [cond_true]
    rw [null1 (t := Nd.empty) rfl]
    simp only [Bool.or_eq_true, Bool.and_eq_true, beq_iff_eq] at hz
    rcases hz with hz | hz
    · rw [hz.1]; rfl
    · rw [null1 hz, Bool.or_true]
theorem timesN_null {x : Nd} {b : Bd} (h : Ok3 x) (hs : x.size ≤ 9000) (hb : bounds b.1 b.2 = true) : (timesN x b).nullable = ((b.1 == 0) || x.nullable) := by
  have h0 := times_null h hs hb
  have hss := sub0_sz x
  unfold timesN timesB
  cases hc1 : ((times x b.1 b.2).kind != 5) || !x.plain
  · simp only [cond_false]
    cases hc2 : (b == opt) && x.nullable
    · simp only [cond_false]
      cases hc3 : ((x.kind == 5) && simple b && simple (bof x))
      · simp only [cond_false]
        cases hc4 : (b == plus) && x.nullable
        · exact h0
        · simp only [cond_true]
          simp only [Bool.and_eq_true] at hc4
          rw [times_null h hs (by decide), hc4.2]; simp
      · simp only [cond_true]
        simp only [Bool.and_eq_true, beq_iff_eq] at hc3
        have h5 := right_five (nice_right h.1) hc3.1.1
        obtain ⟨t, ht⟩ : ∃ t, x.subs[0]? = some t := ⟨_, List.getElem?_eq_getElem (by omega)⟩
        rw [null5 hc3.1.1 ht]
        have hb' : bounds (bif (b != bof x) || (b == star) then star else b).1 (bif (b != bof x) || (b == star) then star else b).2 = true := cond_p (fun z : Bd => bounds z.1 z.2 = true) (by decide) hb
        rw [times_null (sub0_ok3 h hc3.1.1) (by omega) hb', sub0_at ht]
        have hl : x.least = (bof x).1 := rfl
        rw [hl]
        generalize bof x = c at *
        obtain ⟨_, hsb⟩ := hc3.1
        have hsc := hc3.2
        simp only [simple, Bool.or_eq_true, beq_iff_eq] at hsb hsc
        rcases hsb with (rfl | rfl) | rfl <;> rcases hsc with (rfl | rfl) | rfl <;> (generalize t.nullable = q; cases q <;> decide)
    · simp only [cond_true]
      simp only [Bool.and_eq_true] at hc2
      rw [hc2.2]; simp
  · exact h0
theorem merged_null {x y o : Nd} (hx : Ok3 x) (hy : Ok3 y) (sx : x.size ≤ 9000) (sy : y.size ≤ 9000) (h : merged x y = some o) : o.nullable = (x.nullable && y.nullable) := by
  have hstar : ∀ n f : Nd, Ok3 n → isStar n f = true → n.nullable = true := by
    intro n f hn hh
    unfold isStar at hh
    simp only [Bool.and_eq_true, beq_iff_eq] at hh
    have h5 := right_five (nice_right hn.1) hh.1.1
    obtain ⟨t, ht⟩ : ∃ t, n.subs[0]? = some t := ⟨_, List.getElem?_eq_getElem (by omega)⟩
    rw [null5 hh.1.1 ht]
    have : n.least = 0 := congrArg Prod.fst hh.1.2
    rw [this]; rfl
  unfold merged at h
  cases h1 : (!x.plain || !y.plain) <;> rw [h1] at h <;> simp only [cond_true, cond_false] at h
  · cases h2 : isStar y x <;> rw [h2] at h <;> simp only [cond_true, cond_false] at h
    · cases h3 : isStar x y <;> rw [h3] at h <;> simp only [cond_true, cond_false] at h
      · cases hb : (Same2 x y && (x.kind == 5) && (bof x == star)) <;> rw [hb] at h
        · simp at h
        · simp at h; subst h
          simp only [Bool.and_eq_true] at hb
          rw [← Same2_eq hb.1.1, Bool.and_self]
      · cases h; rw [timesN_null hy sy (by decide), hstar x y hx h3]; simp [plus]
    · cases h; rw [timesN_null hx sx (by decide), hstar y x hy h2]; simp [plus]
  · simp at h
end Nd
end Go.Proofs.Yteenegaadlhjdaa
namespace Go.Proofs.Yteenegaadlhjdaa
namespace Nd
theorem mkJ3_null (l : List Nd) : (mkJ 3 l empty).nullable = l.all nullable := by
  match l with
  | [] => exact null1 (t := empty) rfl
  | [x] => simp [mkJ]
  | x :: y :: l => exact null3 (t := mk 3 zero 0 0 (x :: y :: l)) rfl
theorem mkJ4_null {l : List Nd} (h : l ≠ []) : (mkJ 4 l none).nullable = l.any nullable := by
  match l, h with
  | [], h => exact absurd rfl h
  | [x], _ => simp [mkJ]
  | x :: y :: l, _ => exact null4 (t := mk 4 zero 0 0 (x :: y :: l)) rfl
theorem flat3_null {l : List Nd} : (flat 3 1 l).all nullable = l.all nullable := by
  induction l with
  | nil => rfl
  | cons x l ih =>
    simp only [flat, List.flatMap_cons, List.all_append, List.all_cons] at ih ⊢
    rw [ih]
    congr 1
    unfold flat1
    cases h3 : (x.kind == 3)
    · cases h1 : (x.kind == 1)
      · simp
      · rw [null1 (beq_iff_eq.1 h1)]; rfl
    · rw [null3 (beq_iff_eq.1 h3)]; rfl
theorem flat4_null {l : List Nd} (h : ∀ t ∈ l, t.nice = true) : (flat 4 0 l).any nullable = l.any nullable := by
  induction l with
  | nil => rfl
  | cons x l ih =>
    have ih := ih (fun t ht => h t (by simp [ht]))
    simp only [flat, List.flatMap_cons, List.any_append, List.any_cons] at ih ⊢
    rw [ih]
    congr 1
    unfold flat1
    have hk := nice_kind (h x (by simp))
    cases h4 : (x.kind == 4)
    · rw [show (x.kind == 0) = false from beq_eq_false_iff_ne.2 (by omega)]
      simp
    · rw [null4 (beq_iff_eq.1 h4)]; rfl
theorem seq_null {l : List Nd} (h : ∀ t ∈ l, Ok3 t ∧ t.size ≤ 1000) (hs : sizeL l ≤ 9999) : (seq l).nullable = l.all nullable := by
  rw [seq_eq (fun t ht => ⟨(h t ht).1.1, (h t ht).2⟩) hs, mkJ3_null, flat3_null]
theorem or_null {l : List Nd} (h : ∀ t ∈ l, Ok3 t ∧ t.size ≤ 1000) (hs : sizeL l ≤ 9999) (hne : l ≠ []) : (or l).nullable = l.any nullable := by
  rw [or_eq (fun t ht => .inl ⟨(h t ht).1.1, (h t ht).2⟩) hs, mkJ4_null, flat4_null (fun t ht => (h t ht).1.1)]
  cases l with
  | nil => exact absurd rfl hne
  | cons x l =>
    intro hh
    simp only [flat, List.flatMap_cons, List.append_eq_nil_iff] at hh
    exact flat1_alt_ne (h x (by simp)).1.1 hh.1
theorem mstep_null {l l' : List Nd} (hl : ∀ t ∈ l, Ok3 t) (hs : sizeL l ≤ 9000) (h : mstep l = some l') : l'.all nullable = l.all nullable := by
  induction l generalizing l' with
  | nil => simp [mstep] at h
  | cons a l ih =>
    cases l with
    | nil => simp [mstep] at h
    | cons b r =>
      simp only [sizeL] at hs
      simp only [mstep] at h
      cases hm : merged a b with
      | some m =>
        rw [hm] at h; simp only [Option.some.injEq] at h; subst h
        simp only [List.all_cons, merged_null (hl a (by simp)) (hl b (by simp)) (by omega) (by omega) hm, Bool.and_assoc]
      | none =>
        rw [hm] at h
        simp only [Option.map_eq_some_iff] at h
        obtain ⟨q, hq, rfl⟩ := h
        have := ih (fun t ht => hl t (by simp [ht])) (by simp only [sizeL]; omega) hq
        simp only [List.all_cons] at this ⊢
        rw [this]
theorem catF_null {n : Nd} (h : Ok3 n) (hs : n.size ≤ 1000) : (catF n).nullable = n.nullable := by
  induction hz : n.size using Nat.strongRecOn generalizing n with
  | _ s ih =>
    by_cases hk : n.kind = 3 ∧ n.nice = true
    · cases hm : mstep n.subs with
      | none => rw [catF_none hm]
      | some l =>
        rw [catF_some hk.1 hk.2 hm]
        have h1 := mstep_sz (fun t ht => nice_subs hk.2 ht) hm
        have h2 := seq_sz l
        have h3 := size_subs n
        have h4 := mstep_ok3 (fun t ht => h.subs ht) (by omega) hm
        have h5 : ∀ t ∈ l, Ok3 t ∧ t.size ≤ 1000 := fun t ht => ⟨h4 t ht, by have := size_le_sizeL ht; omega⟩
        rw [ih (seq l).size (by omega) (seq_ok3 h5 (by omega)) (by omega) rfl, seq_null h5 (by omega), mstep_null (fun t ht => h.subs ht) (by omega) hm, null3 hk.1]
    · rw [catF, dif_neg hk]
theorem cat_null {l : List Nd} (h : ∀ t ∈ l, Ok3 t) (hs : sizeL l ≤ 999) : (cat l).nullable = l.all nullable := by
  have h5 : ∀ t ∈ l, Ok3 t ∧ t.size ≤ 1000 := fun t ht => ⟨h t ht, by have := size_le_sizeL ht; omega⟩
  unfold cat
  rw [catF_null (seq_ok3 h5 (by omega)) (by have := seq_sz l; omega), seq_null h5 (by omega)]
theorem foldl_cap_null (l : List Nd) : ∀ acc, (l.foldl capStep acc).any nullable = (acc.any nullable || l.any nullable) := by
  induction l with
  | nil => intro acc; simp
  | cons x l ih =>
    intro acc
    simp only [List.foldl_cons, ih, List.any_cons]
    rw [← Bool.or_assoc]
    congr 1
    unfold capStep
    cases hc : (!x.plain || !(acc.any fun m => Same2 x m))
    · simp only [cond_false]
      rw [Bool.or_eq_false_iff] at hc
      have h2 : (acc.any fun m => Same2 x m) = true := by simpa using hc.2
      obtain ⟨m, hm, hs⟩ := List.any_eq_true.1 h2
      have := Same2_eq hs
      subst this
      cases hx : x.nullable
      · simp
      · rw [List.any_eq_true.2 ⟨x, hm, hx⟩]; rfl
    · simp
theorem captured_null {l : List Nd} (h : ∀ t ∈ l, Ok3 t ∧ t.size ≤ 1000) (hs : sizeL l ≤ 9999) (hne : l ≠ []) : (captured l).nullable = l.any nullable := by
  have hm : ∀ t ∈ capL l, t ∈ l := fun t ht => (foldl_cap_mem l [] t ht).resolve_left (by simp)
  have hz : sizeL (capL l) ≤ sizeL l := by have := foldl_cap_sz l []; simpa [capL, sizeL] using this
  unfold captured
  rw [or_null (fun t ht => h t (hm t ht)) (by omega) (capL_ne hne)]
  have := foldl_cap_null l []
  simpa [capL] using this
theorem dd_null (l : List Nd) : ∀ p, ((p :: dd p l).any nullable) = ((p :: l).any nullable) := by
  induction l with
  | nil => intro p; rfl
  | cons y l ih =>
    intro p
    simp only [dd]
    cases hc : Same2 y p
    · simp only [cond_false]
      have := ih y
      simp only [List.any_cons] at this ⊢
      rw [this]
    · simp only [cond_true]
      have := Same2_eq hc
      subst this
      have := ih y
      simp only [List.any_cons] at this ⊢
      rw [this, ← Bool.or_assoc, Bool.or_self]
theorem compactT_null (l : List Nd) : (compactT l).any nullable = l.any nullable := by
  cases l with
  | nil => rfl
  | cons x l => exact dd_null l x
theorem any_perm {a b : List Nd} (h : a.Perm b) : a.any nullable = b.any nullable := by
  rw [Bool.eq_iff_iff, List.any_eq_true, List.any_eq_true]
  exact ⟨fun ⟨t, ht, hn⟩ => ⟨t, h.mem_iff.1 ht, hn⟩, fun ⟨t, ht, hn⟩ => ⟨t, h.mem_iff.2 ht, hn⟩⟩
theorem altO_null (l : List Nd) : l.any nullable = (altE l || (altO l).any nullable) := by
  induction l with
  | nil => rfl
  | cons x l ih =>
    simp only [altO, altE, List.any_cons, List.filter_cons] at ih ⊢
    rw [ih]
    cases h2 : (x.kind == 2)
    · cases h1 : (x.kind == 1)
      · simp only [Bool.not_false, Bool.and_true, if_true, List.any_cons, Bool.false_or]
        generalize (l.any fun x => x.kind == 1) = p
        cases x.nullable <;> cases p <;> simp
      · rw [null1 (beq_iff_eq.1 h1)]; simp
    · have h1 : (x.kind == 1) = false := by have := beq_iff_eq.1 h2; exact beq_eq_false_iff_ne.2 (by omega)
      rw [null2 (beq_iff_eq.1 h2), h1]
      simp
theorem altL_null (l : List Nd) : (altL l).any nullable = (altO l).any nullable := by
  unfold altL
  cases hc : ((ofS (altS l)).kind == 2)
  · rfl
  · simp only [cond_true, List.any_append, List.any_cons, List.any_nil, Bool.or_false, null2 (beq_iff_eq.1 hc)]
theorem altR_null {n : Nd} (h : Ok3 n) (hs : n.size ≤ 1000) (hne : n.subs ≠ []) : (altR n.subs).nullable = n.subs.any nullable := by
  have hz := altL_sz n.subs
  have h3 := size_subs n
  have hm := altM_sz n.subs
  rw [altO_null]
  unfold altR
  cases he : altE n.subs
  · simp only [Bool.false_and, cond_false, Bool.false_or]
    have hl := altL_ne (fun t ht => h.subs ht) hne he
    have h1 := compactT_sz (sortT (altL n.subs))
    have h2 := sizeL_perm (sortT_perm (altL n.subs))
    unfold altM
    rw [or_null (fun t ht => ?_) (by omega) (compactT_ne (fun hh => hl (List.perm_nil.1 (hh ▸ (sortT_perm (altL n.subs)).symm)))), compactT_null, any_perm (sortT_perm _), altL_null]
    have hmem : t ∈ altL n.subs := (sortT_perm _).mem_iff.1 (compactT_mem ht)
    exact ⟨altL_ok3 h hs t hmem, by have := size_le_sizeL hmem; omega⟩
  · rw [he] at hz
    simp only [Bool.true_and, cond_true, Bool.true_or] at hz ⊢
    cases hk : ((altM n.subs).kind == 0)
    · simp only [cond_false]
      have hl : altL n.subs ≠ [] := fun hh => by
        have : altM n.subs = none := by unfold altM; rw [hh]; rfl
        rw [this] at hk; exact absurd hk (by decide)
      rw [timesN_null (altM_ok3 h hs hl) (by omega) (by decide)]; rfl
    · exact null1 (t := empty) rfl
theorem alt_null {ts : List Nd} (h : ∀ t ∈ ts, Ok3 t) (hs : sizeL ts ≤ 999) (hne : ts ≠ []) : (alt ts).nullable = ts.any nullable := by
  have h5 : ∀ t ∈ ts, Ok3 t ∧ t.size ≤ 1000 := fun t ht => ⟨h t ht, by have := size_le_sizeL ht; omega⟩
  have hn := or_ok3 h5 (by omega) hne
  have hq := or_null h5 (by omega) hne
  have hz := or_sz ts
  rw [← hq]
  unfold alt
  cases hk : ((or ts).kind != 4)
  · simp only [cond_false]
    have h4 : (or ts).kind = 4 := by simpa using hk
    have hsub : (or ts).subs ≠ [] := fun hh => by have := four_two (nice_right hn.1) h4; rw [hh] at this; simp at this
    have h3 := size_subs (or ts)
    rw [null4 h4]
    refine cond_p (fun z : Nd => z.nullable = (or ts).subs.any nullable) ?_ ?_
    · exact captured_null (fun t ht => ⟨hn.subs ht, by have := size_le_sizeL ht; omega⟩) (by omega) hsub
    · exact altR_null hn (by omega) hsub
  · rfl
theorem capture_null {t : Nd} (h : t.nice = true) (hs : t.size ≤ 9000) : (capture t).nullable = t.nullable := by rw [capture_eq h hs, null6]
theorem norm_null (t : Nd) : Ok3 t → t.size ≤ 1000 → (norm t).nullable = t.nullable := by
  induction t using Nd.ind with
  | h kd st mn mx tsx ih =>
    intro h hs
    replace ih : ∀ t, t ∈ (Nd.mk kd st mn mx tsx).subs → _ := ih
    generalize Nd.mk kd st mn mx tsx = T at *
    clear kd st mn mx tsx
    have h3 := size_subs T
    have hsub : ∀ u ∈ T.subs, Ok3 (norm u) ∧ (norm u).size ≤ u.size := fun u hu => norm_main u (h.subs hu) (by have := size_le_sizeL hu; omega)
    have hnl : ∀ u ∈ T.subs, (norm u).nullable = u.nullable := fun u hu => ih u hu (h.subs hu) (by have := size_le_sizeL hu; omega)
    have hl : ∀ t ∈ T.subs.map norm, Ok3 t := fun t ht => by obtain ⟨u, hu, rfl⟩ := List.mem_map.1 ht; exact (hsub u hu).1
    have hlz : ∀ l : List Nd, (∀ u ∈ l, (norm u).size ≤ u.size) → sizeL (l.map norm) ≤ sizeL l := by
      intro l
      induction l with
      | nil => intro _; exact Nat.le_refl _
      | cons x l ihl =>
        intro hx
        have h1 := hx x (by simp)
        have h2 := ihl (fun u hu => hx u (by simp [hu]))
        simp only [List.map_cons, sizeL]; omega
    have hz := hlz T.subs (fun u hu => (hsub u hu).2)
    have hall : ∀ l : List Nd, (∀ u ∈ l, (norm u).nullable = u.nullable) → (l.map norm).all nullable = l.all nullable ∧ (l.map norm).any nullable = l.any nullable := by
      intro l
      induction l with
      | nil => intro _; exact ⟨rfl, rfl⟩
      | cons x l ihl =>
        intro hx
        have h1 := hx x (by simp)
        have h2 := ihl (fun u hu => hx u (by simp [hu]))
        simp only [List.map_cons, List.all_cons, List.any_cons, h1, h2.1, h2.2, and_self]
    have hal := hall T.subs hnl
    have head : T.subs.length = 1 → ∃ u, T.subs[0]? = some u ∧ u ∈ T.subs ∧ (T.subs.map norm)[0]?.getD none = norm u := by
      intro h1
      obtain ⟨u, hu⟩ : ∃ u, T.subs[0]? = some u := ⟨_, List.getElem?_eq_getElem (by omega)⟩
      exact ⟨u, hu, List.mem_of_getElem? hu, by rw [List.getElem?_map, hu]; rfl⟩
    rw [norm_eq]
    unfold normK
    cases h6 : (T.kind == 6)
    · simp only [cond_false]
      cases h5 : (T.kind == 5)
      · simp only [cond_false]
        cases hk3 : (T.kind == 3)
        · simp only [cond_false]
          cases h4 : (T.kind == 4)
          · rfl
          · simp only [cond_true]
            have hne : T.subs.map norm ≠ [] := fun hh => by
              have := four_two (nice_right h.1) (beq_iff_eq.1 h4)
              have h0 : T.subs = [] := by simpa using hh
              rw [h0] at this; simp at this
            rw [alt_null hl (by omega) hne, hal.2, null4 (beq_iff_eq.1 h4)]
        · simp only [cond_true]
          rw [cat_null hl (by omega), hal.1, null3 (beq_iff_eq.1 hk3)]
      · simp only [cond_true]
        have hr := right_five (nice_right h.1) (beq_iff_eq.1 h5)
        obtain ⟨u, hu0, hu, hq⟩ := head hr.1
        rw [hq]
        have h7 := hsub u hu
        have h8 := size_le_sizeL hu
        rw [timesN_null h7.1 (by omega) hr.2.1, hnl u hu, null5 (beq_iff_eq.1 h5) hu0]; rfl
    · simp only [cond_true]
      obtain ⟨u, hu0, hu, hq⟩ := head (right_six (nice_right h.1) (beq_iff_eq.1 h6))
      rw [hq]
      have h7 := hsub u hu
      have h8 := size_le_sizeL hu
      rw [capture_null h7.1.1 (by omega), hnl u hu]
      have hk6 := beq_iff_eq.1 h6
      rw [nullable_eq T, hk6]
      show _ = !T.subs.any fun x => !x.nullable
      have : T.subs = [u] := by
        have h1 := right_six (nice_right h.1) hk6
        match hsb : T.subs with
        | [x] => rw [hsb] at hu0; simp at hu0; rw [hu0]
        | [] => rw [hsb] at h1; simp at h1
        | x :: y :: l => rw [hsb] at h1; simp at h1
      rw [this]; simp
end Nd
end Go.Proofs.Yteenegaadlhjdaa
namespace Go.Proofs.Yteenegaadlhjdaa
namespace Nd
variable {a b : Nd}
def G1 (t : Nd) : Nd := mk 6 zero 0 0 [t]
def J3 (kd : Int) (a b : Nd) : Nd := mk kd zero 0 0 [G1 a, G1 b, G1 a]
structure Sm (t : Nd) : Prop where
  ok : Ok3 t
  sz : t.size ≤ 50
theorem Sm.norm {t : Nd} (h : Sm t) : Sm (norm t) := by
  have h1 := norm_main t h.ok (by have := h.sz; omega)
  exact ⟨h1.1, by have := h.sz; omega⟩
theorem Sm.fine {t : Nd} (h : Sm t) : Fine t := ⟨h.ok.1, by have := h.sz; omega⟩
theorem r_cap (h : Sm a) : capture a = G1 a := capture_eq h.ok.1 (by have := h.sz; omega)
theorem r_or (h : Sm a) (g : Sm b) : Nd.or [G1 a, G1 b, G1 a] = J3 4 a b := or_groups h.ok.1 g.ok.1 (by have := h.sz; omega) (by have := g.sz; omega)
theorem r_seq (h : Sm a) (g : Sm b) : seq [G1 a, G1 b, G1 a] = J3 3 a b := seq_groups h.ok.1 g.ok.1 (by have := h.sz; omega) (by have := g.sz; omega)
theorem r_norm6 (h : Sm a) : Nd.norm (G1 a) = G1 (Nd.norm a) := by
  have := norm_group a
  rw [r_cap h.norm] at this
  exact this
theorem r_norm3 (h : Sm a) (g : Sm b) : Nd.norm (J3 3 a b) = J3 3 (Nd.norm a) (Nd.norm b) := by
  have := norm_seq_groups h.ok g.ok (by have := h.sz; omega) (by have := g.sz; omega)
  rw [r_cap h, r_cap g, r_seq h g, r_cap h.norm, r_cap g.norm, r_seq h.norm g.norm] at this
  exact this
theorem r_norm4 (h : Sm a) (g : Sm b) : Nd.norm (J3 4 a b) = J3 4 (Nd.norm a) (Nd.norm b) := by
  have := norm_or_groups h.ok g.ok (by have := h.sz; omega) (by have := g.sz; omega)
  rw [r_cap h, r_cap g, r_or h g, r_cap h.norm, r_cap g.norm, r_or h.norm g.norm] at this
  exact this
theorem r_ok6 (h : Sm a) : Fine (G1 a) ∧ (G1 a).sok = true := by
  refine ⟨⟨group_nice h.ok.1, by have := h.sz; simp [G1, size_mk, sizeL]; omega⟩, ?_⟩
  exact sok_mk sok_zero (fun u hu => by simp [G1, subs] at hu; subst hu; exact h.ok.2)
theorem r_ok3 (h : Sm a) (g : Sm b) : Fine (J3 3 a b) ∧ (J3 3 a b).sok = true := by
  have h1 := r_ok6 h
  have h2 := r_ok6 g
  have hz : (J3 3 a b).size ≤ 1000 := by have := h.sz; have := g.sz; simp [J3, G1, size_mk, sizeL]; omega
  have hl : ∀ t ∈ [G1 a, G1 b, G1 a], Ok3 t ∧ t.size ≤ 1000 := by
    intro t ht
    simp only [List.mem_cons, List.not_mem_nil, or_false] at ht
    rcases ht with rfl | rfl | rfl
    · exact ⟨⟨h1.1.1, h1.2⟩, h1.1.2⟩
    · exact ⟨⟨h2.1.1, h2.2⟩, h2.1.2⟩
    · exact ⟨⟨h1.1.1, h1.2⟩, h1.1.2⟩
  have := seq_ok3 hl (by have := h1.1.2; have := h2.1.2; simp only [sizeL]; omega)
  rw [r_seq h g] at this
  exact ⟨⟨this.1, hz⟩, this.2⟩
theorem r_ok4 (h : Sm a) (g : Sm b) : Fine (J3 4 a b) ∧ (J3 4 a b).sok = true := by
  have h1 := r_ok6 h
  have h2 := r_ok6 g
  have hz : (J3 4 a b).size ≤ 1000 := by have := h.sz; have := g.sz; simp [J3, G1, size_mk, sizeL]; omega
  have hl : ∀ t ∈ [G1 a, G1 b, G1 a], Ok3 t ∧ t.size ≤ 1000 := by
    intro t ht
    simp only [List.mem_cons, List.not_mem_nil, or_false] at ht
    rcases ht with rfl | rfl | rfl
    · exact ⟨⟨h1.1.1, h1.2⟩, h1.1.2⟩
    · exact ⟨⟨h2.1.1, h2.2⟩, h2.1.2⟩
    · exact ⟨⟨h1.1.1, h1.2⟩, h1.1.2⟩
  have := or_ok3 hl (by have := h1.1.2; have := h2.1.2; simp only [sizeL]; omega) (by simp)
  rw [r_or h g] at this
  exact ⟨⟨this.1, hz⟩, this.2⟩
theorem r_null6 (a : Nd) : (G1 a).nullable = a.nullable := null6 a
theorem r_null3 (a b : Nd) : (J3 3 a b).nullable = (a.nullable && b.nullable) := by
  rw [null3 rfl]
  simp only [J3, subs, List.all_cons, List.all_nil, r_null6]
  cases a.nullable <;> cases b.nullable <;> rfl
theorem r_null4 (a b : Nd) : (J3 4 a b).nullable = (a.nullable || b.nullable) := by
  rw [null4 rfl]
  simp only [J3, subs, List.any_cons, List.any_nil, r_null6]
  cases a.nullable <;> cases b.nullable <;> rfl
theorem Sm.null (h : Sm a) : (Nd.norm a).nullable = a.nullable := norm_null a h.ok (by have := h.sz; omega)
theorem r_plain (a : Nd) : ((G1 a).clean && (G1 a).plain) = false := by rw [show (G1 a).plain = false from group_plain a, Bool.and_false]
theorem r_t1 (h : Sm a) : (((G1 (Nd.norm a)).clean && (G1 (Nd.norm a)).nullable) != (a.clean && a.nullable)) = false := by
  rw [(r_ok6 h.norm).1.clean, h.fine.clean, r_null6, h.null]; simp
theorem r_t3 (h : Sm a) (g : Sm b) : ((J3 3 (Nd.norm a) (Nd.norm b)).clean && (J3 3 (Nd.norm a) (Nd.norm b)).nullable) = ((a.clean && a.nullable) && (b.clean && b.nullable)) := by
  rw [(r_ok3 h.norm g.norm).1.clean, r_null3, h.null, g.null, h.fine.clean, g.fine.clean]; simp
theorem r_t4 (h : Sm a) (g : Sm b) : ((J3 4 (Nd.norm a) (Nd.norm b)).clean && (J3 4 (Nd.norm a) (Nd.norm b)).nullable) = ((a.clean && a.nullable) || (b.clean && b.nullable)) := by
  rw [(r_ok4 h.norm g.norm).1.clean, r_null4, h.null, g.null, h.fine.clean, g.fine.clean]; simp
end Nd
end Go.Proofs.Yteenegaadlhjdaa
namespace Go.Proofs.Yteenegaadlhjdaa
open Go.Proofs Go.RowKit
set_option maxRecDepth 20000 in
set_option maxHeartbeats 4000000 in
theorem joins_ok (D D2 : Nat → Prop) (w : World) (kind : Int) (l l2 : List Value) (T U : Nd) (hT : NodeL D w l T) (hU : NodeL D2 w l2 U) (hs1 : T.size ≤ 100000) (hs2 : U.size ≤ 100000) :
  Calls Try.prog 22 #[.int .u8 kind, .agg l.toArray, .agg l2.toArray] w fun e w' => ∃ l', e = .returned (.agg l'.toArray) ∧ NodeL (fun k => (D k ∨ D2 k) ∨ w.heap.size ≤ k) w' l' (Nd.joins kind T U) ∧ Ext w w' := by
 have hT := hT.lt
 obtain ⟨a, cap, rfl, hts, hlen⟩ := hT.op2
 have hU := hU.lt
 obtain ⟨a2, cap2, rfl, hts2, hlen2⟩ := hU.op2
 refine Calls.enter (args := [.int .u8 kind, .agg (tcells T (.slice a T.subs.length cap)).toArray, .agg (tcells U (.slice a2 U.subs.length cap2)).toArray]) Try.func22 rfl rfl rfl rfl ?_
 refine WC.seqk ?_
 refine WC.region ?_
 refine WL.box_agg rfl rfl rfl (fun b1 w6 hb2 hE5 hs3 hR4 => ?_)
 refine WL.box_agg rfl rfl rfl (fun b7 w12 hb8 hE11 hs9 hR10 => ?_)
 refine WL.alloc rfl rfl Ty.zero30 rfl (fun b13 w18 hb14 hE17 hs15 hR16 => ?_)
 refine WL.dn ?_
 refine WC.seqk ?_
 refine WC.region ?_
 refine WL.assign rfl rfl rfl ?_
 refine WL.dn ?_
 refine WC.seqk ?_
 refine WC.seqk ?_
 refine WC.region ?_
 have h19 := ((hR4.ext hE11).ext hE17)
 refine WL.load_box rfl rfl rfl h19 Ty.agg30 ?_
 refine WL.load_box rfl rfl rfl (hR10.ext hE17) Ty.agg30 ?_
 have h20 := (((hT.ext hE5).ext hE11).ext hE17)
 have h21 := (((hU.ext hE5).ext hE11).ext hE17)
 refine WL.buildSlice (vs := [.agg (tcells T (.slice a T.subs.length cap)).toArray, .agg (tcells U (.slice a2 U.subs.length cap2)).toArray]) (cells := (tcells T (.slice a T.subs.length cap) ++ tcells U (.slice a2 U.subs.length cap2))) rfl rfl Ty.slice24 Ty.zero30 rfl rfl rfl rfl rfl rfl (fun b22 w27 hb23 hE26 hs24 hR25 => ?_)
 have hts22 := (NodesV.lit (n := 2) (ts := [T, U]) hR25 (RowsL.cons (h20.ext hE26) (RowsL.cons (h21.ext hE26) (RowsL.nil' _))) rfl rfl (by decide)).lt
 refine WL.len rfl rfl Try.underlying24 rfl ?_
 refine WL.move rfl rfl rfl ?_
 refine WL.dn ?_
 refine WC.block ?_
 refine WC.weaken (r' := [(0, .int .u8 kind), (6, pt b13 0), (12, .slice (some ⟨b22, 0, none⟩) 2 2), (13, .int .i64 2), (14, .int .i64 0), (7, .slice none 0 0)]) (sr rfl (sr rfl (sr rfl (sr rfl (sr rfl (sr rfl (subReg_nil _))))))) ?_
 refine WC.loop (σ := Nat × Value) (fun s r_ w_ => r_ = [(0, .int .u8 kind), (6, pt b13 0), (12, .slice (some ⟨b22, 0, none⟩) 2 2), (13, .int .i64 2), (14, .int .i64 (s.1 : Int)), (7, s.2)] ∧ Ext w w_ ∧ (s.1 ≤ 2 ∧ w27.heap.size ≤ w_.heap.size ∧ Row w_ b13 (zc 0 0 0 (.slice none 0 0)) 30 ∧ NodesV (fun k => (((D k ∧ k < w.heap.size) ∨ (D2 k ∧ k < w.heap.size)) ∨ k = b22) ∧ k < w27.heap.size) w_ (.slice (some ⟨b22, 0, none⟩) 2 2) [T, U] ∧ OwnV 30 w27.heap.size (fun k => (((D k ∧ k < w.heap.size) ∨ (D2 k ∧ k < w.heap.size)) ∨ k = b22) ∧ k < w27.heap.size) w_ s.2 (Nd.flatJ kind ([T, U].take s.1)))) (fun s => 2 - s.1) (0, .slice none 0 0) ⟨rfl, (((hE5.trans hE11).trans hE17).trans hE26), ⟨Nat.zero_le _, Nat.le_refl _, (hR16.ext hE26), (hts22.dom (by intro k h1; have h2 := h1.2; refine ⟨?_, by omega⟩; replace h1 := h1.1; (repeat' first | (guard_hyp h1 : _ ∨ _; refine Or.elim h1 (fun h1 => ?_) (fun h1 => ?_)) | (guard_hyp h1 : _ ∧ _; have hx := h1.2; replace h1 := h1.1)) <;> first | exact h1.elim | exact .inr h1 | exact .inl (.inl ⟨h1, hx⟩) | exact .inl (.inr ⟨h1, hx⟩))), OwnV.nil _ _ _ _⟩⟩ ?_
 rintro ⟨k, v⟩ r_ w30 ⟨rfl, hE28, hI29⟩
 have hzhE28 := hE28.size
 dsimp only at hI29
 obtain ⟨hk, hWw, hR6, hts, hO⟩ := hI29
 have hD : ∀ k, ((((D k ∧ k < w.heap.size) ∨ (D2 k ∧ k < w.heap.size)) ∨ k = b22) ∧ k < w27.heap.size) → k < w27.heap.size := fun k h => h.2
 have hol := hO.own
 refine WC.weaken (r' := [(0, .int .u8 kind), (6, pt b13 0), (12, .slice (some ⟨b22, 0, none⟩) 2 2), (13, .int .i64 2), (14, .int .i64 (k : Int)), (7, v)]) (sr rfl (sr rfl (sr rfl (sr rfl (sr rfl (sr rfl (subReg_nil _))))))) ?_
 refine WC.seqk ?_
 refine WC.region ?_
 cases hc31 : decide (((k : Int) : Int) < 2) with
 | false =>
  refine WL.lss rfl rfl rfl rfl hc31 ?_
  have hp31 := of_decide_eq_false hc31
  refine WL.dn ?_
  refine WC.seqk ?_
  refine WC.cond_f rfl ?_
  refine WC.exit (fun a_ ha => ?_)
  refine exit_then ?_
  refine exit_then ?_
  refine exit_here ?_
  refine WC.at ?_ ha
  refine WC.seqk ?_
  refine WC.seqk ?_
  refine WC.region ?_
  refine WL.move rfl rfl rfl ?_
  have hkk : k = 2 := by omega
  subst hkk
  have hOO : OwnV _ _ _ _ _ (Nd.flatJ kind [T, U]) := hO
  have hle32 := hOO.le
  obtain ⟨a32, cap32, rfl, hnn32, hx32⟩ := hOO.cases
  have hts32 := hOO.nodes.lt
  refine WL.len rfl rfl Try.underlying24 rfl ?_
  refine WL.dn ?_
  refine WC.block ?_
  refine WC.seqk ?_
  refine WC.region ?_
  cases hc33 : (((Nd.flatJ kind [T, U]).length : Int) == 0) with
  | false =>
   refine WL.eql rfl rfl rfl rfl hc33 ?_
   have hp33 := beq_eq_false_iff_ne.1 hc33
   refine WL.assign rfl rfl rfl ?_
   refine WL.dn ?_
   refine WC.cond_f rfl ?_
   refine WC.seqk ?_
   refine WC.region ?_
   cases hc34 : (((Nd.flatJ kind [T, U]).length : Int) == 1) with
   | false =>
    refine WL.eql rfl rfl rfl rfl hc34 ?_
    have hp34 := beq_eq_false_iff_ne.1 hc34
    refine WL.assign rfl rfl rfl ?_
    refine WL.dn ?_
    refine WC.cond_f rfl ?_
    refine WC.sk ?_
    refine WC.seqk ?_
    refine WC.region ?_
    refine WL.move rfl rfl rfl ?_
    refine WL.move rfl rfl rfl ?_
    refine WL.build (l := (zc kind 0 0 (.slice a32 ((Nd.flatJ kind [T, U]).length) cap32))) rfl rfl Ty.zero30 Ty.st30 ⟨⟨rfl, rfl⟩, (by kernel_rfl)⟩ ?_
    have hn35 : NodeL _ w30 (zc kind 0 0 (.slice a32 ((Nd.flatJ kind [T, U]).length) cap32)) (Nd.mk kind Nd.zero 0 0 (Nd.flatJ kind [T, U])) := NodeL.shut (k := kind) (s := Nd.zero) (mn := 0) (mx := 0) (sl := .slice a32 ((Nd.flatJ kind [T, U]).length) cap32) (ts := (Nd.flatJ kind [T, U])) hts32
    have hn35 := hn35.lt
    refine WL.store_box rfl rfl rfl hR6 Ty.agg30 rfl rfl (fun w38 hB37 hR36 => ?_)
    have hzhB37 := hB37.size
    refine WL.dn ?_
    refine WC.ret (fun a_ ha => ?_)
    exact bodyPost_cell (l := (zc kind 0 0 (.slice a32 ((Nd.flatJ kind [T, U]).length) cap32))) rfl ha rfl Ty.agg30 hR36 ⟨_, rfl, (by simp only [Nd.joins, Nd.joinsL, hc33, hc34, cond_true, cond_false]; exact (hn35.bu hB37).dom (by intro k h1; (try dsimp only at h1); (repeat' first | (guard_hyp h1 : _ ∨ _; refine Or.elim h1 (fun h1 => ?_) (fun h1 => ?_)) | (guard_hyp h1 : _ ∧ _; have hx := h1.2; replace h1 := h1.1)) <;> first | exact h1.elim | exact .inl (.inl h1) | exact .inl (.inr h1) | exact .inr (by omega))), (hB37.onto hE28 (by omega))⟩
   | true =>
    refine WL.eql rfl rfl rfl rfl hc34 ?_
    have hp34 := beq_iff_eq.1 hc34
    refine WL.assign rfl rfl rfl ?_
    refine WL.dn ?_
    refine WC.cond_t rfl ?_
    refine WC.seqk ?_
    refine WC.region ?_
    refine WL.move rfl rfl rfl ?_
    obtain ⟨t35, ht35⟩ : ∃ t, (Nd.flatJ kind [T, U])[0]? = some t := ⟨_, List.getElem?_eq_getElem (by omega)⟩
    obtain ⟨eb35, eo35, el35, hea35, hD35, her35, hn35⟩ := hts32.at ht35
    obtain ⟨a35, cap35, rfl, hts35, hlen35⟩ := hn35.op2
    subst hea35
    refine WL.indexAddr (i := 0) rfl rfl Ty.slice24 rfl rfl rfl (by omega) ?_
    refine WL.load_agg (l := tcells t35 (.slice a35 t35.subs.length cap35)) rfl rfl Ty.agg30 rfl her35 ?_
    refine WL.store_box rfl rfl rfl hR6 Ty.agg30 rfl rfl (fun w38 hB37 hR36 => ?_)
    have hzhB37 := hB37.size
    refine WL.dn ?_
    refine WC.ret (fun a_ ha => ?_)
    refine ret_block ?_
    refine ret_then ?_
    exact bodyPost_cell (l := (tcells t35 (.slice a35 t35.subs.length cap35))) rfl ha rfl Ty.agg30 hR36 ⟨_, rfl, (by simp only [Nd.joins, Nd.joinsL, hc33, hc34, ht35, Option.getD_some, cond_true, cond_false]; exact (hn35.bu hB37).dom (by intro k h1; (try dsimp only at h1); (repeat' first | (guard_hyp h1 : _ ∨ _; refine Or.elim h1 (fun h1 => ?_) (fun h1 => ?_)) | (guard_hyp h1 : _ ∧ _; have hx := h1.2; replace h1 := h1.1)) <;> first | exact h1.elim | exact .inl (.inl h1) | exact .inl (.inr h1) | exact .inr (by omega))), (hB37.onto hE28 (by omega))⟩
  | true =>
   refine WL.eql rfl rfl rfl rfl hc33 ?_
   have hp33 := beq_iff_eq.1 hc33
   refine WL.assign rfl rfl rfl ?_
   refine WL.dn ?_
   refine WC.cond_t rfl ?_
   refine WC.seqk ?_
   refine WC.region ?_
   refine WL.build (l := (zc 1 0 0 (.slice none 0 0))) rfl rfl Ty.zero30 Ty.st30 ⟨⟨rfl, rfl⟩, (by kernel_rfl)⟩ ?_
   have hn34 : NodeL _ w30 (zc 1 0 0 (.slice none 0 0)) (Nd.mk 1 Nd.zero 0 0 ([])) := NodeL.shut (k := 1) (s := Nd.zero) (mn := 0) (mx := 0) (sl := .slice none 0 0) (ts := []) (NodesV.nil (fun _ => False) _ none 0)
   have hn34 := hn34.lt
   refine WL.store_box rfl rfl rfl hR6 Ty.agg30 rfl rfl (fun w37 hB36 hR35 => ?_)
   have hzhB36 := hB36.size
   refine WL.dn ?_
   refine WC.ret (fun a_ ha => ?_)
   refine ret_block ?_
   refine ret_then ?_
   exact bodyPost_cell (l := (zc 1 0 0 (.slice none 0 0))) rfl ha rfl Ty.agg30 hR35 ⟨_, rfl, (by simp only [Nd.joins, Nd.joinsL, hc33, cond_true, cond_false]; exact (hn34.bu hB36).dom (by intro k h1; (try dsimp only at h1); (repeat' first | (guard_hyp h1 : _ ∨ _; refine Or.elim h1 (fun h1 => ?_) (fun h1 => ?_)) | (guard_hyp h1 : _ ∧ _; have hx := h1.2; replace h1 := h1.1)) <;> first | exact h1.elim | exact .inl (.inl h1) | exact .inl (.inr h1) | exact .inr (by omega))), (hB36.onto hE28 (by omega))⟩
 | true =>
  refine WL.lss rfl rfl rfl rfl hc31 ?_
  have hp31 := of_decide_eq_true hc31
  refine WL.dn ?_
  refine WC.seqk ?_
  refine WC.cond_t rfl ?_
  refine WC.sk ?_
  refine WC.seqk ?_
  refine WC.block ?_
  refine WC.seqk ?_
  refine WC.region ?_
  obtain ⟨t32, ht32⟩ : ∃ t, [T, U][k]? = some t := ⟨_, List.getElem?_eq_getElem (by show k < 2; omega)⟩
  obtain ⟨eb32, eo32, el32, hea32, hD32, her32, hn32⟩ := hts.at ht32
  obtain ⟨a32, cap32, rfl, hts32, hlen32⟩ := hn32.op2
  cases hea32
  refine WL.indexAddr (i := k) rfl rfl Ty.slice24 rfl rfl rfl (by show k < 2; omega) ?_
  refine WL.load_agg (l := tcells t32 (.slice a32 t32.subs.length cap32)) rfl rfl Ty.agg30 rfl her32 ?_
  refine WL.alloc rfl rfl Ty.zero30 rfl (fun b33 w38 hb34 hE37 hs35 hR36 => ?_)
  refine WL.store_box rfl rfl rfl hR36 Ty.agg30 rfl rfl (fun w41 hB40 hR39 => ?_)
  have hzhB40 := hB40.size
  refine WL.dn ?_
  refine WC.block ?_
  refine WC.seqk ?_
  refine WC.region ?_
  refine WL.fieldAddr rfl rfl Ty.fld30_0 rfl ?_
  refine WL.load_fld rfl rfl Ty.flat5 rfl hR39 rfl ?_
  refine WL.move rfl rfl rfl ?_
  cases hc42 : ((t32.kind : Int) == kind) with
  | false =>
   refine WL.eql rfl rfl rfl rfl hc42 ?_
   have hp42 := beq_eq_false_iff_ne.1 hc42
   refine WL.assign rfl rfl rfl ?_
   refine WL.dn ?_
   refine WC.cond_f rfl ?_
   refine WC.seqk ?_
   refine WC.region ?_
   refine WL.move rfl rfl rfl ?_
   cases hc43 : ((kind : Int) == 3) with
   | false =>
    refine WL.eql rfl rfl rfl rfl hc43 ?_
    have hp43 := beq_eq_false_iff_ne.1 hc43
    refine WL.move rfl rfl rfl ?_
    refine WL.pass rfl rfl ?_
    refine WL.pass rfl rfl ?_
    refine WL.pass rfl rfl ?_
    refine WL.pick_f rfl rfl rfl rfl ?_
    refine WL.assign rfl rfl rfl ?_
    refine WL.dn ?_
    refine WC.cond_f rfl ?_
    refine WC.region ?_
    refine WL.move rfl rfl rfl ?_
    refine WL.load_box rfl rfl rfl hR39 Ty.agg30 ?_
    have h44 := ((hn32.ext hE37).bu hB40)
    refine WL.buildSlice (vs := [.agg (tcells t32 (.slice a32 t32.subs.length cap32)).toArray]) (cells := (tcells t32 (.slice a32 t32.subs.length cap32))) rfl rfl Ty.slice24 Ty.zero30 rfl rfl rfl rfl rfl rfl (fun b45 w50 hb46 hE49 hs47 hR48 => ?_)
    have hts45 := (NodesV.lit (n := 1) (ts := [t32]) hR48 (RowsL.cons (h44.ext hE49) (RowsL.nil' _)) rfl rfl (by decide)).lt
    have h51 := (((hO.ext hE37).but hB40 (fun h1 => by have := hD _ h1; first | omega | (dsimp only at h1; omega)) (fun hk => by have := (hO.ext hE37).own _ hk; have := hol _ hk; omega)).ext hE49)
    have hol52 := h51.own
    refine WL.append1 rfl rfl Ty.slice24 Ty.zero30 rfl small_node rfl rfl h51 hR48 (h44.ext hE49) (by intro k h1 hh; have := hol52 _ hh; have := hol _ hh; first | omega | ((try dsimp only at h1); (repeat' first | (guard_hyp h1 : _ ∨ _; refine Or.elim h1 (fun h1 => ?_) (fun h1 => ?_)) | (guard_hyp h1 : _ ∧ _; have hx := h1.2; replace h1 := h1.1)) <;> first | contradiction | omega)) (by have h1 := Nd.sizeL_take ht32; have h2 := Nd.flatJ_len kind ([T, U].take k); have h3 := Nd.size_subs t32; have h4 := Nd.length_le_sizeL t32.subs; have h5 : Nd.sizeL [T, U] = T.size + U.size := (by simp [Nd.sizeL]); omega) (by omega) ?_
    intro v52 w52 hG52 hO52 hv52
    have hE52 := grown_below hG52 ((hB40.onto (hE28.trans hE37) (by omega)).trans hE49) (by intro k hk; have := hol52 _ hk; omega)
    have hz52 := hE52.size
    have hzz52 := hG52.size
    refine WL.assign rfl rfl rfl ?_
    refine WL.dn ?_
    refine WC.region ?_
    refine WL.add (v := (k : Int) + 1) rfl rfl rfl rfl (IntWalk.i64_in _ (by omega)) ?_
    refine WL.move rfl rfl rfl ?_
    refine WL.nil (fun a_ ha => ?_)
    have h53 := (grown_row hG52 ((hB40.row (hR6.ext hE37) (by omega)).ext hE49) (fun hh => by have := hol52 _ hh; have := hol _ hh; omega))
    have h54 := ((((hts.ext hE37).bu hB40).ext hE49).grown hG52 (by intro k h1 hlt hh; have := hol52 _ hh; have := hol _ hh; first | omega | ((try dsimp only at h1); (repeat' first | (guard_hyp h1 : _ ∨ _; refine Or.elim h1 (fun h1 => ?_) (fun h1 => ?_)) | (guard_hyp h1 : _ ∧ _; have hx := h1.2; replace h1 := h1.1)) <;> first | contradiction | omega)))
    exact ⟨(k + 1, v52), _, ha.weaken (sr rfl (sr rfl (sr rfl (sr rfl (sr rfl (sr rfl (subReg_nil _))))))), ⟨rfl, hE52, ⟨by first | omega | (dsimp only; omega), by omega, h53, h54, (by dsimp only; simp only [Nd.flatJ_succ _ ht32, Nd.flatJ1, hc42, hc43, cond_true, cond_false, List.append_nil, Bool.true_and, Bool.false_and]; exact hO52.dom (by first | exact fun _ h _ _ => h | (rintro k h _ _; rcases h with h | h; exact h; first | exact h | exact h.1)))⟩⟩, by first | omega | (dsimp only; omega)⟩
   | true =>
    refine WL.eql rfl rfl rfl rfl hc43 ?_
    have hp43 := beq_iff_eq.1 hc43
    refine WL.move rfl rfl rfl ?_
    refine WL.fieldAddr rfl rfl Ty.fld30_0 rfl ?_
    refine WL.load_fld rfl rfl Ty.flat5 rfl hR39 rfl ?_
    cases hc44 : ((t32.kind : Int) == 1) with
    | false =>
     refine WL.eql rfl rfl rfl rfl hc44 ?_
     have hp44 := beq_eq_false_iff_ne.1 hc44
     refine WL.pick_t rfl rfl rfl rfl ?_
     refine WL.assign rfl rfl rfl ?_
     refine WL.dn ?_
     refine WC.cond_f rfl ?_
     refine WC.region ?_
     refine WL.move rfl rfl rfl ?_
     refine WL.load_box rfl rfl rfl hR39 Ty.agg30 ?_
     have h45 := ((hn32.ext hE37).bu hB40)
     refine WL.buildSlice (vs := [.agg (tcells t32 (.slice a32 t32.subs.length cap32)).toArray]) (cells := (tcells t32 (.slice a32 t32.subs.length cap32))) rfl rfl Ty.slice24 Ty.zero30 rfl rfl rfl rfl rfl rfl (fun b46 w51 hb47 hE50 hs48 hR49 => ?_)
     have hts46 := (NodesV.lit (n := 1) (ts := [t32]) hR49 (RowsL.cons (h45.ext hE50) (RowsL.nil' _)) rfl rfl (by decide)).lt
     have h52 := (((hO.ext hE37).but hB40 (fun h1 => by have := hD _ h1; first | omega | (dsimp only at h1; omega)) (fun hk => by have := (hO.ext hE37).own _ hk; have := hol _ hk; omega)).ext hE50)
     have hol53 := h52.own
     refine WL.append1 rfl rfl Ty.slice24 Ty.zero30 rfl small_node rfl rfl h52 hR49 (h45.ext hE50) (by intro k h1 hh; have := hol53 _ hh; have := hol _ hh; first | omega | ((try dsimp only at h1); (repeat' first | (guard_hyp h1 : _ ∨ _; refine Or.elim h1 (fun h1 => ?_) (fun h1 => ?_)) | (guard_hyp h1 : _ ∧ _; have hx := h1.2; replace h1 := h1.1)) <;> first | contradiction | omega)) (by have h1 := Nd.sizeL_take ht32; have h2 := Nd.flatJ_len kind ([T, U].take k); have h3 := Nd.size_subs t32; have h4 := Nd.length_le_sizeL t32.subs; have h5 : Nd.sizeL [T, U] = T.size + U.size := (by simp [Nd.sizeL]); omega) (by omega) ?_
     intro v53 w53 hG53 hO53 hv53
     have hE53 := grown_below hG53 ((hB40.onto (hE28.trans hE37) (by omega)).trans hE50) (by intro k hk; have := hol53 _ hk; omega)
     have hz53 := hE53.size
     have hzz53 := hG53.size
     refine WL.assign rfl rfl rfl ?_
     refine WL.dn ?_
     refine WC.region ?_
     refine WL.add (v := (k : Int) + 1) rfl rfl rfl rfl (IntWalk.i64_in _ (by omega)) ?_
     refine WL.move rfl rfl rfl ?_
     refine WL.nil (fun a_ ha => ?_)
     have h54 := (grown_row hG53 ((hB40.row (hR6.ext hE37) (by omega)).ext hE50) (fun hh => by have := hol53 _ hh; have := hol _ hh; omega))
     have h55 := ((((hts.ext hE37).bu hB40).ext hE50).grown hG53 (by intro k h1 hlt hh; have := hol53 _ hh; have := hol _ hh; first | omega | ((try dsimp only at h1); (repeat' first | (guard_hyp h1 : _ ∨ _; refine Or.elim h1 (fun h1 => ?_) (fun h1 => ?_)) | (guard_hyp h1 : _ ∧ _; have hx := h1.2; replace h1 := h1.1)) <;> first | contradiction | omega)))
     exact ⟨(k + 1, v53), _, ha.weaken (sr rfl (sr rfl (sr rfl (sr rfl (sr rfl (sr rfl (subReg_nil _))))))), ⟨rfl, hE53, ⟨by first | omega | (dsimp only; omega), by omega, h54, h55, (by dsimp only; simp only [Nd.flatJ_succ _ ht32, Nd.flatJ1, hc42, hc43, hc44, cond_true, cond_false, List.append_nil, Bool.true_and, Bool.false_and]; exact hO53.dom (by first | exact fun _ h _ _ => h | (rintro k h _ _; rcases h with h | h; exact h; first | exact h | exact h.1)))⟩⟩, by first | omega | (dsimp only; omega)⟩
    | true =>
     refine WL.eql rfl rfl rfl rfl hc44 ?_
     have hp44 := beq_iff_eq.1 hc44
     refine WL.pick_t rfl rfl rfl rfl ?_
     refine WL.assign rfl rfl rfl ?_
     refine WL.dn ?_
     refine WC.cond_t rfl ?_
     refine WC.sk ?_
     refine WC.region ?_
     refine WL.add (v := (k : Int) + 1) rfl rfl rfl rfl (IntWalk.i64_in _ (by omega)) ?_
     refine WL.move rfl rfl rfl ?_
     refine WL.nil (fun a_ ha => ?_)
     have h45 := ((hO.ext hE37).but hB40 (fun h1 => by have := hD _ h1; first | omega | (dsimp only at h1; omega)) (fun hk => by have := (hO.ext hE37).own _ hk; have := hol _ hk; omega))
     have h46 := (hB40.row (hR6.ext hE37) (by omega))
     have h47 := ((hts.ext hE37).bu hB40)
     exact ⟨(k + 1, v), _, ha.weaken (sr rfl (sr rfl (sr rfl (sr rfl (sr rfl (sr rfl (subReg_nil _))))))), ⟨rfl, (hB40.onto (hE28.trans hE37) (by omega)), ⟨by first | omega | (dsimp only; omega), by omega, h46, h47, (by dsimp only; simp only [Nd.flatJ_succ _ ht32, Nd.flatJ1, hc42, hc43, hc44, cond_true, cond_false, List.append_nil, Bool.true_and, Bool.false_and]; exact h45.dom (by first | exact fun _ h _ _ => h | (rintro k h _ _; rcases h with h | h; exact h; first | exact h | exact h.1)))⟩⟩, by first | omega | (dsimp only; omega)⟩
  | true =>
   refine WL.eql rfl rfl rfl rfl hc42 ?_
   have hp42 := beq_iff_eq.1 hc42
   refine WL.assign rfl rfl rfl ?_
   refine WL.dn ?_
   refine WC.cond_t rfl ?_
   refine WC.region ?_
   refine WL.move rfl rfl rfl ?_
   refine WL.fieldAddr rfl rfl Ty.fld30_4 rfl ?_
   refine WL.load_fld rfl rfl Ty.flat24 rfl hR39 rfl ?_
   have h43 := ((hO.ext hE37).but hB40 (fun h1 => by have := hD _ h1; first | omega | (dsimp only at h1; omega)) (fun hk => by have := (hO.ext hE37).own _ hk; have := hol _ hk; omega))
   have hol44 := h43.own
   have h45 := ((hts32.ext hE37).bu hB40)
   refine WL.appendV rfl rfl Ty.slice24 Ty.zero30 rfl small_node rfl rfl h43 h45 (by intro k h1 hh; have := hol44 _ hh; have := hol _ hh; first | omega | ((try dsimp only at h1); (repeat' first | (guard_hyp h1 : _ ∨ _; refine Or.elim h1 (fun h1 => ?_) (fun h1 => ?_)) | (guard_hyp h1 : _ ∧ _; have hx := h1.2; replace h1 := h1.1)) <;> first | contradiction | omega)) (by have h1 := Nd.sizeL_take ht32; have h2 := Nd.flatJ_len kind ([T, U].take k); have h3 := Nd.size_subs t32; have h4 := Nd.length_le_sizeL t32.subs; have h5 : Nd.sizeL [T, U] = T.size + U.size := (by simp [Nd.sizeL]); omega) (by omega) ?_
   intro v44 w44 hG44 hO44 hv44
   have hE44 := grown_below hG44 (hB40.onto (hE28.trans hE37) (by omega)) (by intro k hk; have := hol44 _ hk; omega)
   have hz44 := hE44.size
   have hzz44 := hG44.size
   refine WL.assign rfl rfl rfl ?_
   refine WL.dn ?_
   refine WC.region ?_
   refine WL.add (v := (k : Int) + 1) rfl rfl rfl rfl (IntWalk.i64_in _ (by omega)) ?_
   refine WL.move rfl rfl rfl ?_
   refine WL.nil (fun a_ ha => ?_)
   have h46 := (grown_row hG44 (hB40.row (hR6.ext hE37) (by omega)) (fun hh => by have := hol44 _ hh; have := hol _ hh; omega))
   have h47 := (((hts.ext hE37).bu hB40).grown hG44 (by intro k h1 hlt hh; have := hol44 _ hh; have := hol _ hh; first | omega | ((try dsimp only at h1); (repeat' first | (guard_hyp h1 : _ ∨ _; refine Or.elim h1 (fun h1 => ?_) (fun h1 => ?_)) | (guard_hyp h1 : _ ∧ _; have hx := h1.2; replace h1 := h1.1)) <;> first | contradiction | omega)))
   exact ⟨(k + 1, v44), _, ha.weaken (sr rfl (sr rfl (sr rfl (sr rfl (sr rfl (sr rfl (subReg_nil _))))))), ⟨rfl, hE44, ⟨by first | omega | (dsimp only; omega), by omega, h46, h47, (by dsimp only; simp only [Nd.flatJ_succ _ ht32, Nd.flatJ1, hc42, cond_true, cond_false, List.append_nil, Bool.true_and, Bool.false_and]; exact hO44.dom (by first | exact fun _ h _ _ => h | (rintro k h _ _; rcases h with h | h; exact h; first | exact h | exact h.1)))⟩⟩, by first | omega | (dsimp only; omega)⟩
end Go.Proofs.Yteenegaadlhjdaa
namespace Go.Proofs.Yteenegaadlhjdaa
open Go.RowKit
abbrev cells3 (x : Int × Int × Int) : List Value := [.int .u8 x.1, .int .u8 x.2.1, .int .u8 x.2.2]
def SmallV (D : Nat → Prop) (w : World) (sl : Value) (xs : List (Int × Int × Int)) : Prop :=
  (∃ a cap, sl = .slice a xs.length cap ∧ (xs.length ≤ cap ∧ xs.length ≤ 9223372036854775807) ∧
    (xs = [] ∨ ∃ b o, a = some ⟨b, o, none⟩ ∧ D b ∧ ∀ (i : Nat) (x : Int × Int × Int), xs[i]? = some x → Reads w b (o + i * 3) (cells3 x))) ∧
  ∀ x ∈ xs, (0 ≤ x.1 ∧ x.1 ≤ 255) ∧ (0 ≤ x.2.1 ∧ x.2.1 ≤ 255) ∧ 0 ≤ x.2.2 ∧ x.2.2 ≤ 255
theorem SmallV.ext {D : Nat → Prop} {w w' : World} {sl : Value} {xs : List (Int × Int × Int)} (h : SmallV D w sl xs) (e : Ext w w') : SmallV D w' sl xs := by
  obtain ⟨⟨a, cap, h1, h2, h3⟩, h4⟩ := h
  refine ⟨⟨a, cap, h1, h2, ?_⟩, h4⟩
  rcases h3 with h | ⟨b, o, ha, hd, hr⟩
  · exact .inl h
  · exact .inr ⟨b, o, ha, hd, fun i x hx => (hr i x hx).ext e⟩
theorem SmallV.len {D : Nat → Prop} {w : World} {a : Option Addr} {n cap : Nat} {xs : List (Int × Int × Int)} (h : SmallV D w (.slice a n cap) xs) : n = xs.length ∧ xs.length ≤ cap ∧ xs.length ≤ 9223372036854775807 := by
  obtain ⟨⟨a', cap', he, hc, _⟩, _⟩ := h
  cases he
  exact ⟨rfl, hc⟩
theorem SmallV.at {D : Nat → Prop} {w : World} {a : Option Addr} {n cap : Nat} {xs : List (Int × Int × Int)} (h : SmallV D w (.slice a n cap) xs) {i : Nat} {x : Int × Int × Int} (hx : xs[i]? = some x) :
    ∃ b o, a = some ⟨b, o, none⟩ ∧ Reads w b (o + i * 3) (cells3 x) ∧ (0 ≤ x.1 ∧ x.1 ≤ 255) ∧ (0 ≤ x.2.1 ∧ x.2.1 ≤ 255) ∧ 0 ≤ x.2.2 ∧ x.2.2 ≤ 255 := by
  obtain ⟨⟨a', cap', he, hc, h⟩, hb⟩ := h
  cases he
  rcases h with h | ⟨b, o, ha, _, hr⟩
  · rw [h] at hx; simp at hx
  · exact ⟨b, o, ha, hr i _ hx, hb x (List.mem_of_getElem? hx)⟩
theorem SmallV.take {D : Nat → Prop} {w : World} {a : Option Addr} {n cap m : Nat} {xs : List (Int × Int × Int)} (h : SmallV D w (.slice a n cap) xs) (hm : m ≤ xs.length) : SmallV D w (.slice a m cap) (xs.take m) := by
  obtain ⟨⟨a', cap', he, hc, h⟩, hb⟩ := h
  cases he
  refine ⟨⟨a, cap, by rw [List.length_take, Nat.min_eq_left hm], by rw [List.length_take]; omega, ?_⟩, fun x hx => hb x (List.mem_of_mem_take hx)⟩
  rcases h with h | ⟨b, o, ha, hd, hr⟩
  · left; rw [h]; simp
  · right
    refine ⟨b, o, ha, hd, fun i l hl => hr i l ?_⟩
    rw [List.getElem?_take] at hl
    split at hl
    · exact hl
    · cases hl
theorem SmallV.take25 {D : Nat → Prop} {w : World} {a : Option Addr} {n cap : Nat} {xs : List (Int × Int × Int)} (h : SmallV D w (.slice a n cap) xs) : SmallV D w (.slice a (xs.take 25).length cap) (xs.take 25) := by
  have h1 := h.take (m := (xs.take 25).length) (by rw [List.length_take]; omega)
  have e : xs.take (xs.take 25).length = xs.take 25 := by
    rw [List.length_take]
    rcases Nat.le_total 25 xs.length with h | h
    · rw [Nat.min_eq_left h]
    · rw [Nat.min_eq_right h, List.take_of_length_le (Nat.le_refl _), List.take_of_length_le h]
  rw [e] at h1; exact h1
theorem min25 (xs : List (Int × Int × Int)) : minI (xs.length : Int) 25 = ((xs.take 25).length : Int) := by
  rw [List.length_take]; unfold minI; split <;> omega
end Go.Proofs.Yteenegaadlhjdaa
namespace Go.Proofs.Yteenegaadlhjdaa
open Go.Proofs Go.RowKit
set_option maxRecDepth 20000 in
set_option maxHeartbeats 4000000 in
theorem made_ok (D : Nat → Prop) (w : World) (a : Option Addr) (cap : Nat) (xs : List (Int × Int × Int)) (hxs : SmallV D w (.slice a xs.length cap) xs) :
  Calls Try.prog 7 #[.slice a xs.length cap] w fun e w' => ∃ l', e = .returned (.agg l'.toArray) ∧ NodeL (fun k => w.heap.size ≤ k) w' l' (Nd.made xs) ∧ Ext w w' := by
 have hlen := hxs.len
 have hxt := hxs.take25
 have hlt := hxt.len
 refine Calls.enter (args := [.slice a xs.length cap]) Try.func7 rfl rfl rfl rfl ?_
 refine WC.seqk ?_
 refine WC.region ?_
 refine WL.alloc rfl rfl Ty.zero30 rfl (fun b1 w6 hb2 hE5 hs3 hR4 => ?_)
 refine WL.dn ?_
 refine WC.seqk ?_
 refine WC.region ?_
 refine WL.assign rfl rfl rfl ?_
 refine WL.dn ?_
 refine WC.seqk ?_
 refine WC.region ?_
 refine WL.assign rfl rfl rfl ?_
 refine WL.assign rfl rfl rfl ?_
 refine WL.dn ?_
 refine WC.seqk ?_
 refine WC.seqk ?_
 refine WC.region ?_
 refine WL.move rfl rfl rfl ?_
 refine WL.move rfl rfl rfl ?_
 refine WL.len rfl rfl Try.underlying22 rfl ?_
 refine WL.min2 (v := minI xs.length 25) rfl rfl rfl rfl rfl ?_
 refine WL.slice_h (m := (xs.take 25).length) rfl rfl Ty.slice22 rfl rfl (min25 xs) (by omega) ?_
 refine WL.len rfl rfl Try.underlying22 rfl ?_
 refine WL.move rfl rfl rfl ?_
 refine WL.dn ?_
 refine WC.block ?_
 refine WC.weaken (r' := [(2, pt b1 0), (20, .slice a ((xs.take 25).length) cap), (21, .int .i64 ((xs.take 25).length)), (22, .int .i64 0), (3, .slice none 0 0), (4, .int .i64 1), (5, .int .i64 0)]) (sr rfl (sr rfl (sr rfl (sr rfl (sr rfl (sr rfl (sr rfl (subReg_nil _)))))))) ?_
 refine WC.loop (σ := Nat × Value × Nd.M3) (fun s r_ w_ => r_ = [(2, pt b1 0), (20, .slice a ((xs.take 25).length) cap), (21, .int .i64 ((xs.take 25).length)), (22, .int .i64 (s.1 : Int)), (3, s.2.1), (4, .int .i64 s.2.2.u), (5, .int .i64 s.2.2.g)] ∧ Ext w w_ ∧ (s.1 ≤ (xs.take 25).length ∧ w6.heap.size ≤ w_.heap.size ∧ s.2.2 = Nd.madeSt ((xs.take 25).take s.1) ∧ Row w_ b1 (zc 0 0 0 (.slice none 0 0)) 30 ∧ OwnV 30 w6.heap.size (fun k => w6.heap.size ≤ k) w_ s.2.1 s.2.2.pile)) (fun s => (xs.take 25).length - s.1) (0, .slice none 0 0, ⟨[], 1, 0⟩) ⟨rfl, hE5, ⟨Nat.zero_le _, Nat.le_refl _, rfl, hR4, OwnV.nil _ _ _ _⟩⟩ ?_
 rintro ⟨k, v, m⟩ r_ w9 ⟨rfl, hE7, hI8⟩
 have hzhE7 := hE7.size
 dsimp only at hI8
 obtain ⟨hk, hWw, hst, hR2, hO⟩ := hI8
 have hbd := Nd.madeSt_bd ((xs.take 25).take k)
 rw [← hst] at hbd
 obtain ⟨pile, u, gr⟩ := m
 obtain ⟨hb1, hb2, hb3, hb4, hb5, hb6⟩ := hbd
 dsimp only at hst hO hb1 hb2 hb3 hb4 hb5 hb6
 have hO := hO.dom (D' := fun k => w6.heap.size ≤ k ∧ k < w9.heap.size) (fun k h1 h2 _ => ⟨h1, h2⟩)
 have hb7 : pile.length ≤ 25 := by have := hb1; rw [List.length_take, List.length_take] at this; omega
 have hb8 : Nd.sizeL pile ≤ 25 := by have := hb2; rw [List.length_take, List.length_take] at this; omega
 clear hb1 hb2
 obtain ⟨ap, capp, rfl, hnn, hxx⟩ := hO.cases
 have hol := hO.own
 have hcapp := hO.nodes.len
 have hts := hO.nodes.lt
 have hM := hO.mix
 refine WC.weaken (r' := [(2, pt b1 0), (20, .slice a ((xs.take 25).length) cap), (21, .int .i64 ((xs.take 25).length)), (22, .int .i64 (k : Int)), (3, .slice ap pile.length capp), (4, .int .i64 u), (5, .int .i64 gr)]) (sr rfl (sr rfl (sr rfl (sr rfl (sr rfl (sr rfl (sr rfl (subReg_nil _)))))))) ?_
 refine WC.seqk ?_
 refine WC.region ?_
 cases hc10 : decide (((k : Int) : Int) < ((xs.take 25).length)) with
 | false =>
  refine WL.lss rfl rfl rfl rfl hc10 ?_
  have hp10 := of_decide_eq_false hc10
  refine WL.dn ?_
  refine WC.seqk ?_
  refine WC.cond_f rfl ?_
  refine WC.exit (fun a_ ha => ?_)
  refine exit_then ?_
  refine exit_then ?_
  refine exit_here ?_
  refine WC.at ?_ ha
  refine WC.seqk ?_
  refine WC.seqk ?_
  refine WC.region ?_
  refine WL.move rfl rfl rfl ?_
  refine WL.len rfl rfl Try.underlying24 rfl ?_
  cases hc11 : ((pile.length : Int) == 0) with
  | false =>
   refine WL.eql rfl rfl rfl rfl hc11 ?_
   have hp11 := beq_eq_false_iff_ne.1 hc11
   refine WL.dn ?_
   refine WC.cond_f rfl ?_
   refine WC.sk ?_
   refine WC.seqk ?_
   refine WC.region ?_
   refine WL.move rfl rfl rfl ?_
   have hrest := (hts).drop1 (by omega)
   obtain ⟨t12, ht12⟩ : ∃ t, pile[0]? = some t := ⟨_, List.getElem?_eq_getElem (by omega)⟩
   obtain ⟨eb12, el12, hea12, hgb12, hgl12, her12, hn12⟩ := hM.at ht12
   obtain ⟨a12, cap12, rfl, hts12, hlen12⟩ := hn12.op2
   subst hea12
   refine WL.indexAddr (i := 0) rfl rfl Ty.slice24 rfl rfl rfl (by omega) ?_
   refine WL.load_agg (l := tcells t12 (.slice a12 t12.subs.length cap12)) rfl rfl Ty.agg30 rfl her12 ?_
   refine WL.alloc rfl rfl Ty.zero30 rfl (fun b13 w18 hb14 hE17 hs15 hR16 => ?_)
   refine WL.store_box rfl rfl rfl hR16 Ty.agg30 rfl rfl (fun w21 hB20 hR19 => ?_)
   have hzhB20 := hB20.size
   refine WL.dn ?_
   refine WC.seqk ?_
   refine WC.seqk ?_
   refine WC.region ?_
   refine WL.move rfl rfl rfl ?_
   refine WL.slice_l (m := 1) rfl rfl Ty.slice24 rfl rfl rfl (by omega) ?_
   refine WL.len rfl rfl Try.underlying24 rfl ?_
   refine WL.move rfl rfl rfl ?_
   refine WL.dn ?_
   refine WC.block ?_
   generalize hA : (if capp = 1 then (some ⟨eb12, 0, none⟩) else Option.map (fun z => Addr.add z (1 * 8)) (some ⟨eb12, 0, none⟩)) = ar at hrest ⊢
   have h22 := (hB20.row (hR2.ext hE17) (by omega))
   have h23 := ((hn12.ext hE17).bu hB20)
   refine WC.weaken (r' := [(2, pt b1 0), (13, pt b13 0), (193, .slice ar (pile.length - 1 : Nat) (capp - 1)), (194, .int .i64 (pile.length - 1 : Nat)), (195, .int .i64 0)]) (sr rfl (sr rfl (sr rfl (sr rfl (sr rfl (subReg_nil _)))))) ?_
   refine WC.loop (σ := Nat × List Value) (fun s r_ w_ => r_ = [(2, pt b1 0), (13, pt b13 0), (193, .slice ar (pile.length - 1 : Nat) (capp - 1)), (194, .int .i64 (pile.length - 1 : Nat)), (195, .int .i64 (s.1 : Int))] ∧ Ext w9 w_ ∧ (s.1 ≤ pile.length - 1 ∧ w9.heap.size + 1 ≤ w_.heap.size ∧ Row w_ b1 (zc 0 0 0 (.slice none 0 0)) 30 ∧ Row w_ b13 s.2 30 ∧ NodeL (fun k => w6.heap.size ≤ k ∧ k ≠ b13) w_ s.2 (((pile.drop 1).take s.1).foldl (Nd.joins 4) t12))) (fun s => pile.length - 1 - s.1) (0, (tcells t12 (.slice a12 t12.subs.length cap12))) ⟨rfl, (hB20.onto hE17 (by omega)), ⟨Nat.zero_le _, by omega, h22, hR19, (h23.dom (by intro k h1; (try dsimp only at h1); (repeat' first | (guard_hyp h1 : _ ∨ _; refine Or.elim h1 (fun h1 => ?_) (fun h1 => ?_)) | (guard_hyp h1 : _ ∧ _; have hx := h1.2; replace h1 := h1.1)) <;> first | contradiction | omega | (dsimp only; omega)))⟩⟩ ?_
   rintro ⟨k, l13⟩ r_ w26 ⟨rfl, hE24, hI25⟩
   have hzhE24 := hE24.size
   dsimp only at hI25
   obtain ⟨hk2, hWw2, hR2, hR13, hN⟩ := hI25
   have hN := hN.lt
   obtain ⟨a27, cap27, rfl, hts27, hlen27⟩ := hN.op2
   refine WC.weaken (r' := [(2, pt b1 0), (13, pt b13 0), (193, .slice ar (pile.length - 1 : Nat) (capp - 1)), (194, .int .i64 (pile.length - 1 : Nat)), (195, .int .i64 (k : Int))]) (sr rfl (sr rfl (sr rfl (sr rfl (sr rfl (subReg_nil _)))))) ?_
   refine WC.seqk ?_
   refine WC.region ?_
   cases hc28 : decide (((k : Int) : Int) < (pile.length - 1 : Nat)) with
   | false =>
    refine WL.lss rfl rfl rfl rfl hc28 ?_
    have hp28 := of_decide_eq_false hc28
    refine WL.dn ?_
    refine WC.seqk ?_
    refine WC.cond_f rfl ?_
    refine WC.exit (fun a_ ha => ?_)
    refine exit_then ?_
    refine exit_then ?_
    refine exit_here ?_
    refine WC.at ?_ ha
    refine WC.seqk ?_
    refine WC.region ?_
    refine WL.load_box rfl rfl rfl hR13 Ty.agg30 ?_
    refine WL.store_box rfl rfl rfl hR2 Ty.agg30 rfl rfl (fun w31 hB30 hR29 => ?_)
    have hzhB30 := hB30.size
    refine WL.dn ?_
    refine WC.ret (fun a_ ha => ?_)
    exact bodyPost_cell (l := (tcells (((pile.drop 1).take k).foldl (Nd.joins 4) t12) (.slice a27 (((pile.drop 1).take k).foldl (Nd.joins 4) t12).subs.length cap27))) rfl ha rfl Ty.agg30 hR29 ⟨_, rfl, (by rw [Nd.made_eq hst (by omega), Nd.madeEnd_at ht12]; have hkk : (pile.drop 1).take k = pile.drop 1 := List.take_of_length_le (by rw [List.length_drop]; omega); have hT : ((pile.drop 1).take k).foldl (Nd.joins 4) t12 = (pile.drop 1).foldl (Nd.joins 4) t12 := (by rw [hkk]); rw [← hT]; exact (hN.bu hB30).dom (by intro k h1; (try dsimp only at h1); (repeat' first | (guard_hyp h1 : _ ∨ _; refine Or.elim h1 (fun h1 => ?_) (fun h1 => ?_)) | (guard_hyp h1 : _ ∧ _; have hx := h1.2; replace h1 := h1.1)) <;> first | contradiction | omega | (dsimp only; omega))), (hB30.onto (hE7.trans hE24) (by omega))⟩
   | true =>
    refine WL.lss rfl rfl rfl rfl hc28 ?_
    have hp28 := of_decide_eq_true hc28
    refine WL.dn ?_
    refine WC.seqk ?_
    refine WC.cond_t rfl ?_
    refine WC.sk ?_
    refine WC.seqk ?_
    refine WC.block ?_
    refine WC.seqk ?_
    refine WC.region ?_
    obtain ⟨t29, ht29⟩ : ∃ t, (pile.drop 1)[k]? = some t := ⟨_, List.getElem?_eq_getElem (by first | omega | (rw [List.length_drop]; omega))⟩
    obtain ⟨eb29, eo29, el29, hea29, hD29, her29, hn29⟩ := (hrest.ext hE24).at ht29
    obtain ⟨a29, cap29, rfl, hts29, hlen29⟩ := hn29.op2
    subst hea29
    refine WL.indexAddr (i := k) rfl rfl Ty.slice24 rfl rfl rfl (by first | omega | (rw [List.length_drop]; omega)) ?_
    refine WL.load_agg (l := tcells t29 (.slice a29 t29.subs.length cap29)) rfl rfl Ty.agg30 rfl her29 ?_
    refine WL.alloc rfl rfl Ty.zero30 rfl (fun b30 w35 hb31 hE34 hs32 hR33 => ?_)
    refine WL.store_box rfl rfl rfl hR33 Ty.agg30 rfl rfl (fun w38 hB37 hR36 => ?_)
    have hzhB37 := hB37.size
    refine WL.dn ?_
    refine WC.region ?_
    have h39 := (hB37.row (hR13.ext hE34) (by omega))
    refine WL.load_box rfl rfl rfl h39 Ty.agg30 ?_
    refine WL.load_box rfl rfl rfl hR36 Ty.agg30 ?_
    have h40 := ((hN.ext hE34).bu hB37)
    have h41 := ((hn29.ext hE34).bu hB37)
    refine WL.call rfl rfl rfl Ty.ent22 (joins_ok _ _ _ 4 _ _ (((pile.drop 1).take k).foldl (Nd.joins 4) t12) t29 h40 h41 (by have h1 := Nd.foldl_size ((pile.drop 1).take k) t12; have h2 := Nd.sizeL_take_le (pile.drop 1) k; have h3 := Nd.sizeL_drop1 ht12; have h4 : ((pile.drop 1).take k).length ≤ pile.length := (by rw [List.length_take, List.length_drop]; omega); omega) (by have h1 := Nd.size_le_sizeL (List.mem_of_getElem? ht29); have h2 := Nd.sizeL_drop1 ht12; omega)) ?_
    rintro _ w44 ⟨l42, rfl, hr42, hE43⟩
    have hzhE43 := hE43.size
    refine ⟨_, rfl, ?_⟩
    have hn42 := hr42.lt
    obtain ⟨a42, cap42, rfl, hts42, hlen42⟩ := hn42.op2
    refine WL.store_box rfl rfl rfl (h39.ext hE43) Ty.agg30 rfl rfl (fun w47 hB46 hR45 => ?_)
    have hzhB46 := hB46.size
    refine WL.dn ?_
    refine WC.region ?_
    refine WL.add (v := (k : Int) + 1) rfl rfl rfl rfl (IntWalk.i64_in _ (by omega)) ?_
    refine WL.move rfl rfl rfl ?_
    refine WL.nil (fun a_ ha => ?_)
    have h48 := (hB46.row ((hB37.row (hR2.ext hE34) (by omega)).ext hE43) (by omega))
    exact ⟨(k + 1, (tcells (Nd.joins 4 (((pile.drop 1).take k).foldl (Nd.joins 4) t12) t29) (.slice a42 (Nd.joins 4 (((pile.drop 1).take k).foldl (Nd.joins 4) t12) t29).subs.length cap42))), _, ha.weaken (sr rfl (sr rfl (sr rfl (sr rfl (sr rfl (subReg_nil _)))))), ⟨rfl, (hB46.onto ((hB37.onto (hE24.trans hE34) (by omega)).trans hE43) (by omega)), ⟨by first | omega | (dsimp only; omega), by omega, h48, hR45, (by have ht := ht29; rw [List.take_add_one, ht, List.foldl_append]; exact (hn42.bu hB46).dom (by intro k h1; (try dsimp only at h1); (repeat' first | (guard_hyp h1 : _ ∨ _; refine Or.elim h1 (fun h1 => ?_) (fun h1 => ?_)) | (guard_hyp h1 : _ ∧ _; have hx := h1.2; replace h1 := h1.1)) <;> first | contradiction | omega | (dsimp only; omega)))⟩⟩, by first | omega | (dsimp only; omega)⟩
  | true =>
   refine WL.eql rfl rfl rfl rfl hc11 ?_
   have hp11 := beq_iff_eq.1 hc11
   refine WL.dn ?_
   refine WC.cond_t rfl ?_
   refine WC.seqk ?_
   refine WC.region ?_
   refine WL.call rfl rfl rfl Ty.ent20 (class_ok _ ([97]) (by first | decide | exact Nd.lettersS_len _)) ?_
   rintro _ w14 ⟨l12, rfl, hr12, hE13⟩
   have hzhE13 := hE13.size
   refine ⟨_, rfl, ?_⟩
   have hn12 := hr12.lt
   obtain ⟨a12, cap12, rfl, hts12, hlen12⟩ := hn12.op2
   refine WL.store_box rfl rfl rfl (hR2.ext hE13) Ty.agg30 rfl rfl (fun w17 hB16 hR15 => ?_)
   have hzhB16 := hB16.size
   refine WL.dn ?_
   refine WC.ret (fun a_ ha => ?_)
   refine ret_then ?_
   exact bodyPost_cell (l := (tcells (Nd.classS ([97])) (.slice a12 (Nd.classS ([97])).subs.length cap12))) rfl ha rfl Ty.agg30 hR15 ⟨_, rfl, (by rw [Nd.made_eq hst (by omega), Nd.madeEnd_nil (p := pile) (by omega)]; exact (hn12.bu hB16).dom (by intro k h1; (try dsimp only at h1); (repeat' first | (guard_hyp h1 : _ ∨ _; refine Or.elim h1 (fun h1 => ?_) (fun h1 => ?_)) | (guard_hyp h1 : _ ∧ _; have hx := h1.2; replace h1 := h1.1)) <;> first | contradiction | omega | (dsimp only; omega))), (hB16.onto (hE7.trans hE13) (by omega))⟩
 | true =>
  refine WL.lss rfl rfl rfl rfl hc10 ?_
  have hp10 := of_decide_eq_true hc10
  refine WL.dn ?_
  refine WC.seqk ?_
  refine WC.cond_t rfl ?_
  refine WC.sk ?_
  refine WC.seqk ?_
  refine WC.block ?_
  refine WC.seqk ?_
  refine WC.region ?_
  obtain ⟨x11, hx11⟩ : ∃ x, (xs.take 25)[k]? = some x := ⟨_, List.getElem?_eq_getElem (by omega)⟩
  obtain ⟨eb11, eo11, hea11, her11, hxb11⟩ := (hxt.ext hE7).at hx11
  subst hea11
  refine WL.indexAddr (i := k) rfl rfl Ty.slice22 rfl rfl rfl (by omega) ?_
  refine WL.load_agg (l := cells3 x11) rfl rfl Ty.agg49 rfl her11 ?_
  refine WL.alloc rfl rfl Ty.zero49 rfl (fun b12 w17 hb13 hE16 hs14 hR15 => ?_)
  refine WL.store_box rfl rfl rfl hR15 Ty.agg49 rfl rfl (fun w20 hB19 hR18 => ?_)
  have hzhB19 := hB19.size
  refine WL.dn ?_
  refine WC.seqk ?_
  refine WC.region ?_
  refine WL.move rfl rfl rfl ?_
  refine WL.len rfl rfl Try.underlying24 rfl ?_
  refine WL.assign rfl rfl rfl ?_
  refine WL.dn ?_
  refine WC.seqk ?_
  refine WC.region ?_
  refine WL.fieldAddr rfl rfl Ty.fld49_0 rfl ?_
  refine WL.load_fld rfl rfl Ty.flat5 rfl hR18 rfl ?_
  refine WL.rem (v := (x11.1.tmod 12)) rfl rfl rfl rfl (by decide) rfl ?_
  refine WL.assign rfl rfl rfl ?_
  refine WL.dn ?_
  refine WC.block ?_
  refine WC.seqk ?_
  refine WC.region ?_
  refine WL.move rfl rfl rfl ?_
  cases hc21 : decide (((x11.1.tmod 12) : Int) < 4) with
  | false =>
   refine WL.lss rfl rfl rfl rfl hc21 ?_
   have hp21 := of_decide_eq_false hc21
   refine WL.assign rfl rfl rfl ?_
   refine WL.dn ?_
   refine WC.cond_f rfl ?_
   refine WC.seqk ?_
   refine WC.region ?_
   refine WL.move rfl rfl rfl ?_
   cases hc22 : (((x11.1.tmod 12) : Int) == 4) with
   | false =>
    refine WL.eql rfl rfl rfl rfl hc22 ?_
    have hp22 := beq_eq_false_iff_ne.1 hc22
    refine WL.assign rfl rfl rfl ?_
    refine WL.dn ?_
    refine WC.cond_f rfl ?_
    refine WC.seqk ?_
    refine WC.region ?_
    refine WL.move rfl rfl rfl ?_
    cases hc23 : decide (((x11.1.tmod 12) : Int) < 7) with
    | false =>
     refine WL.lss rfl rfl rfl rfl hc23 ?_
     have hp23 := of_decide_eq_false hc23
     refine WL.move rfl rfl rfl ?_
     refine WL.pass rfl rfl ?_
     refine WL.pass rfl rfl ?_
     refine WL.pick_f rfl rfl rfl rfl ?_
     refine WL.assign rfl rfl rfl ?_
     refine WL.dn ?_
     refine WC.cond_f rfl ?_
     refine WC.seqk ?_
     refine WC.region ?_
     refine WL.move rfl rfl rfl ?_
     cases hc24 : decide (((x11.1.tmod 12) : Int) < 9) with
     | false =>
      refine WL.lss rfl rfl rfl rfl hc24 ?_
      have hp24 := of_decide_eq_false hc24
      refine WL.move rfl rfl rfl ?_
      refine WL.pass rfl rfl ?_
      refine WL.pass rfl rfl ?_
      refine WL.pick_f rfl rfl rfl rfl ?_
      refine WL.assign rfl rfl rfl ?_
      refine WL.dn ?_
      refine WC.cond_f rfl ?_
      refine WC.seqk ?_
      refine WC.region ?_
      refine WL.move rfl rfl rfl ?_
      cases hc25 : (((x11.1.tmod 12) : Int) == 9) with
      | false =>
       refine WL.eql rfl rfl rfl rfl hc25 ?_
       have hp25 := beq_eq_false_iff_ne.1 hc25
       refine WL.move rfl rfl rfl ?_
       refine WL.pass rfl rfl ?_
       refine WL.pass rfl rfl ?_
       refine WL.pick_f rfl rfl rfl rfl ?_
       refine WL.move rfl rfl rfl ?_
       refine WL.pass rfl rfl ?_
       refine WL.pass rfl rfl ?_
       refine WL.pick_f rfl rfl rfl rfl ?_
       refine WL.assign rfl rfl rfl ?_
       refine WL.dn ?_
       refine WC.cond_f rfl ?_
       refine WC.seqk ?_
       refine WC.region ?_
       refine WL.move rfl rfl rfl ?_
       cases hc26 : decide ((9 : Int) < (x11.1.tmod 12)) with
       | false =>
        refine WL.gtr rfl rfl rfl rfl hc26 ?_
        have hp26 := of_decide_eq_false hc26
        refine WL.move rfl rfl rfl ?_
        refine WL.pass rfl rfl ?_
        refine WL.pass rfl rfl ?_
        refine WL.pick_f rfl rfl rfl rfl ?_
        refine WL.move rfl rfl rfl ?_
        refine WL.pass rfl rfl ?_
        refine WL.pass rfl rfl ?_
        refine WL.pass rfl rfl ?_
        refine WL.pass rfl rfl ?_
        refine WL.pass rfl rfl ?_
        refine WL.pass rfl rfl ?_
        refine WL.pass rfl rfl ?_
        refine WL.pick_f rfl rfl rfl rfl ?_
        refine WL.assign rfl rfl rfl ?_
        refine WL.dn ?_
        refine WC.cond_f rfl ?_
        refine WC.sk ?_
        refine WC.region ?_
        refine WL.add (v := (k : Int) + 1) rfl rfl rfl rfl (IntWalk.i64_in _ (by omega)) ?_
        refine WL.move rfl rfl rfl ?_
        refine WL.nil (fun a_ ha => ?_)
        have h27 := ((hO.ext hE16).but hB19 (fun h1 => by first | omega | (dsimp only at h1; omega)) (fun hk => by have := (hO.ext hE16).own _ hk; have := hol _ hk; omega))
        have h28 := (hB19.row (hR2.ext hE16) (by omega))
        exact ⟨(k + 1, .slice ap pile.length capp, ⟨pile, u, gr⟩), _, ha.weaken (sr rfl (sr rfl (sr rfl (sr rfl (sr rfl (sr rfl (sr rfl (subReg_nil _)))))))), ⟨rfl, (hB19.onto (hE7.trans hE16) (by omega)), ⟨by first | omega | (dsimp only; omega), by omega, (by rw [Nd.madeSt_succ hx11, ← hst]; simp only [Nd.stepM, hc10, hc21, hc22, hc23, hc24, hc25, hc26, Nd.mostM, Nd.empty, Bool.or_true, Bool.true_or, Bool.or_false, Bool.false_or, cond_true, cond_false, Bool.true_and, Bool.false_and, Bool.and_true, Bool.and_false]), h28, (h27.dom (by intro k h1 _ _; (try dsimp only at h1); (repeat' first | (guard_hyp h1 : _ ∨ _; refine Or.elim h1 (fun h1 => ?_) (fun h1 => ?_)) | (guard_hyp h1 : _ ∧ _; have hx := h1.2; replace h1 := h1.1)) <;> first | contradiction | omega | (dsimp only; omega)))⟩⟩, by first | omega | (dsimp only; omega)⟩
       | true =>
        refine WL.gtr rfl rfl rfl rfl hc26 ?_
        have hp26 := of_decide_eq_true hc26
        refine WL.move rfl rfl rfl ?_
        refine WL.move rfl rfl rfl ?_
        cases hc27 : decide ((0 : Int) < pile.length) with
        | false =>
         refine WL.gtr rfl rfl rfl rfl hc27 ?_
         have hp27 := of_decide_eq_false hc27
         refine WL.pick_t rfl rfl rfl rfl ?_
         refine WL.move rfl rfl rfl ?_
         refine WL.pass rfl rfl ?_
         refine WL.pass rfl rfl ?_
         refine WL.pass rfl rfl ?_
         refine WL.pass rfl rfl ?_
         refine WL.pass rfl rfl ?_
         refine WL.pass rfl rfl ?_
         refine WL.pass rfl rfl ?_
         refine WL.pick_f rfl rfl rfl rfl ?_
         refine WL.assign rfl rfl rfl ?_
         refine WL.dn ?_
         refine WC.cond_f rfl ?_
         refine WC.sk ?_
         refine WC.region ?_
         refine WL.add (v := (k : Int) + 1) rfl rfl rfl rfl (IntWalk.i64_in _ (by omega)) ?_
         refine WL.move rfl rfl rfl ?_
         refine WL.nil (fun a_ ha => ?_)
         have h28 := ((hO.ext hE16).but hB19 (fun h1 => by first | omega | (dsimp only at h1; omega)) (fun hk => by have := (hO.ext hE16).own _ hk; have := hol _ hk; omega))
         have h29 := (hB19.row (hR2.ext hE16) (by omega))
         exact ⟨(k + 1, .slice ap pile.length capp, ⟨pile, u, gr⟩), _, ha.weaken (sr rfl (sr rfl (sr rfl (sr rfl (sr rfl (sr rfl (sr rfl (subReg_nil _)))))))), ⟨rfl, (hB19.onto (hE7.trans hE16) (by omega)), ⟨by first | omega | (dsimp only; omega), by omega, (by rw [Nd.madeSt_succ hx11, ← hst]; simp only [Nd.stepM, hc10, hc21, hc22, hc23, hc24, hc25, hc26, hc27, Nd.mostM, Nd.empty, Bool.or_true, Bool.true_or, Bool.or_false, Bool.false_or, cond_true, cond_false, Bool.true_and, Bool.false_and, Bool.and_true, Bool.and_false]), h29, (h28.dom (by intro k h1 _ _; (try dsimp only at h1); (repeat' first | (guard_hyp h1 : _ ∨ _; refine Or.elim h1 (fun h1 => ?_) (fun h1 => ?_)) | (guard_hyp h1 : _ ∧ _; have hx := h1.2; replace h1 := h1.1)) <;> first | contradiction | omega | (dsimp only; omega)))⟩⟩, by first | omega | (dsimp only; omega)⟩
        | true =>
         refine WL.gtr rfl rfl rfl rfl hc27 ?_
         have hp27 := of_decide_eq_true hc27
         refine WL.pick_t rfl rfl rfl rfl ?_
         refine WL.move rfl rfl rfl ?_
         refine WL.move rfl rfl rfl ?_
         refine WL.move rfl rfl rfl ?_
         refine WL.sub (v := ((pile.length - 1 : Nat) : Int)) rfl rfl rfl rfl (by rw [IntWalk.i64_in _ (by omega)]; omega) ?_
         have h28 := ((hM.ext hE16).but hB19 (by rintro i hi ⟨h1, h2⟩; first | omega | (dsimp only at h1; omega) | ((try dsimp only at h1); (repeat' first | (guard_hyp h1 : _ ∨ _; refine Or.elim h1 (fun h1 => ?_) (fun h1 => ?_)) | (guard_hyp h1 : _ ∧ _; have hx := h1.2; replace h1 := h1.1)) <;> first | contradiction | omega)) (fun hk => by have := (hM.ext hE16).block _ hk; have := hol _ hk; omega))
         obtain ⟨t29, ht29⟩ : ∃ t, pile[(pile.length - 1)]? = some t := ⟨_, List.getElem?_eq_getElem (by omega)⟩
         obtain ⟨eb29, el29, hea29, hgb29, hgl29, her29, hn29⟩ := h28.at ht29
         obtain ⟨a29, cap29, rfl, hts29, hlen29⟩ := hn29.op2
         subst hea29
         refine WL.indexAddr (i := (pile.length - 1)) rfl rfl Ty.slice24 rfl rfl rfl (by omega) ?_
         refine WL.fieldAddr rfl rfl Ty.fld30_0 rfl ?_
         refine WL.load_flat rfl rfl Ty.flat5 rfl (her29 0 _ rfl) ?_
         cases hc30 : ((t29.kind : Int) != 1) with
         | false =>
          refine WL.neq rfl rfl rfl rfl hc30 ?_
          have hp30 := bne_eq_false_iff_eq.1 hc30
          refine WL.pick_t rfl rfl rfl rfl ?_
          refine WL.assign rfl rfl rfl ?_
          refine WL.dn ?_
          refine WC.cond_f rfl ?_
          refine WC.sk ?_
          refine WC.region ?_
          refine WL.add (v := (k : Int) + 1) rfl rfl rfl rfl (IntWalk.i64_in _ (by omega)) ?_
          refine WL.move rfl rfl rfl ?_
          refine WL.nil (fun a_ ha => ?_)
          have h31 := ((hO.ext hE16).but hB19 (fun h1 => by first | omega | (dsimp only at h1; omega)) (fun hk => by have := (hO.ext hE16).own _ hk; have := hol _ hk; omega))
          have h32 := (hB19.row (hR2.ext hE16) (by omega))
          exact ⟨(k + 1, .slice (some ⟨eb29, 0, none⟩) pile.length capp, ⟨pile, u, gr⟩), _, ha.weaken (sr rfl (sr rfl (sr rfl (sr rfl (sr rfl (sr rfl (sr rfl (subReg_nil _)))))))), ⟨rfl, (hB19.onto (hE7.trans hE16) (by omega)), ⟨by first | omega | (dsimp only; omega), by omega, (by rw [Nd.madeSt_succ hx11, ← hst]; simp only [Nd.stepM, hc10, hc21, hc22, hc23, hc24, hc25, hc26, hc27, hc30, Nd.mostM, Nd.empty, Nd.top_at ht29, Bool.or_true, Bool.true_or, Bool.or_false, Bool.false_or, cond_true, cond_false, Bool.true_and, Bool.false_and, Bool.and_true, Bool.and_false]), h32, (h31.dom (by intro k h1 _ _; (try dsimp only at h1); (repeat' first | (guard_hyp h1 : _ ∨ _; refine Or.elim h1 (fun h1 => ?_) (fun h1 => ?_)) | (guard_hyp h1 : _ ∧ _; have hx := h1.2; replace h1 := h1.1)) <;> first | contradiction | omega | (dsimp only; omega)))⟩⟩, by first | omega | (dsimp only; omega)⟩
         | true =>
          refine WL.neq rfl rfl rfl rfl hc30 ?_
          have hp30 := bne_iff_ne.1 hc30
          refine WL.pick_t rfl rfl rfl rfl ?_
          refine WL.assign rfl rfl rfl ?_
          refine WL.dn ?_
          refine WC.cond_t rfl ?_
          refine WC.seqk ?_
          have h31 := ((hO.ext hE16).but hB19 (fun h1 => by first | omega | (dsimp only at h1; omega)) (fun hk => by have := (hO.ext hE16).own _ hk; have := hol _ hk; omega))
          have h32 := (hB19.row (hR2.ext hE16) (by omega))
          refine WC.weaken (r' := [(2, pt b1 0), (20, .slice (some ⟨eb11, eo11, none⟩) ((xs.take 25).length) cap), (21, .int .i64 ((xs.take 25).length)), (22, .int .i64 (k : Int)), (3, .slice (some ⟨eb29, 0, none⟩) pile.length capp), (4, .int .i64 u), (5, .int .i64 gr), (23, .bool true), (24, pt eb11 (eo11 + k * 3)), (25, .agg #[.int .u8 x11.1, .int .u8 x11.2.1, .int .u8 x11.2.2]), (7, pt b12 0), (26, .slice (some ⟨eb29, 0, none⟩) pile.length capp), (27, .int .i64 pile.length), (8, .int .i64 pile.length), (28, pt b12 0), (29, .int .u8 x11.1), (30, .int .u8 (x11.1.tmod 12)), (9, .int .u8 (x11.1.tmod 12)), (32, .int .u8 (x11.1.tmod 12)), (33, .bool false), (31, .bool false), (42, .int .u8 (x11.1.tmod 12)), (43, .bool false), (41, .bool false), (49, .int .u8 (x11.1.tmod 12)), (50, .bool false), (51, .bool false), (52, undef), (53, undef), (54, .bool false), (48, .bool false), (75, .int .u8 (x11.1.tmod 12)), (76, .bool false), (77, .bool false), (78, undef), (79, undef), (80, .bool false), (74, .bool false), (101, .int .u8 (x11.1.tmod 12)), (102, .bool false), (103, .bool false), (104, undef), (105, undef), (106, .bool false), (107, .bool false), (108, undef), (109, undef), (110, .bool false), (100, .bool false), (124, .int .u8 (x11.1.tmod 12)), (125, .bool true), (126, .bool true), (127, .int .i64 pile.length), (128, .bool true), (129, .bool true), (130, .bool true), (131, .slice (some ⟨eb29, 0, none⟩) pile.length capp), (132, .int .i64 pile.length), (133, .int .i64 ((pile.length - 1 : Nat) : Int)), (134, pt eb29 (0 + (pile.length - 1) * 8)), (135, pt eb29 (0 + (pile.length - 1) * 8 + 0)), (136, .int .u8 t29.kind), (137, .bool true), (138, .bool true), (123, .bool true)]) (sr rfl (sr rfl (sr rfl (sr rfl (sr rfl (sr rfl (sr rfl (sr rfl (sr rfl (sr rfl (sr rfl (sr rfl (sr rfl (sr rfl (sr rfl (sr rfl (sr rfl (sr rfl (sr rfl (sr rfl (sr rfl (sr rfl (sr rfl (sr rfl (sr rfl (sr rfl (sr rfl (sr rfl (sr rfl (sr rfl (sr rfl (sr rfl (sr rfl (sr rfl (sr rfl (sr rfl (sr rfl (sr rfl (sr rfl (sr rfl (sr rfl (sr rfl (sr rfl (sr rfl (sr rfl (sr rfl (sr rfl (sr rfl (sr rfl (sr rfl (sr rfl (sr rfl (sr rfl (sr rfl (sr rfl (sr rfl (sr rfl (sr rfl (sr rfl (sr rfl (sr rfl (sr rfl (sr rfl (sr rfl (sr rfl (subReg_nil _)))))))))))))))))))))))))))))))))))))))))))))))))))))))))))))))))) ?_
          refine WC.draw 9 [139, 140, 141, 142, 143, 144, 145, 146, 10] [pc (pt b12 1), pc (.int .u8 x11.2.1), pc (.int .u8 (x11.2.1.tmod 3)), pc (.int .i64 (x11.2.1.tmod 3)), pc (pt b12 2), pc (.int .u8 x11.2.2), pc (.int .u8 (x11.2.2.tmod 4)), pc (.int .i64 (x11.2.2.tmod 4)), pc (.int .i64 (x11.2.1.tmod 3))] (by kernel_rfl) (by kernel_rfl) ⟨KW_pc _, KW_pc _, KW_pc _, KW_pc _, KW_pc _, KW_pc _, KW_pc _, KW_pc _, KW_pc _, trivial⟩ rfl rfl rfl (sc ?_ (sc ?_ (sc ?_ (sc ?_ (sc ?_ (sc ?_ (sc ?_ (sc ?_ (sc ?_ (StepsOn.nil _)))))))))) ?_
          ·intro σ β w1 hE1 hbi hk
           have hz1 := hE1.size
           refine ⟨[], (agree_nil _), ?_⟩
           refine WL.fieldAddr rfl rfl Ty.fld49_1 rfl ?_
           exact dq hbi rfl
          ·intro σ β w1 hE1 hbi hk
           have hz1 := hE1.size
           obtain ⟨_, hv53, rfl⟩ := kn hk 0 rfl rfl
           refine ⟨[(139, pt b12 1)], (ag hv53 (agree_nil _)), ?_⟩
           refine WL.load_fld rfl rfl Ty.flat5 rfl (hR18.ext hE1) rfl ?_
           exact dq hbi rfl
          ·intro σ β w1 hE1 hbi hk
           have hz1 := hE1.size
           obtain ⟨_, hv53, rfl⟩ := kn hk 1 rfl rfl
           refine ⟨[(140, .int .u8 x11.2.1)], (ag hv53 (agree_nil _)), ?_⟩
           refine WL.rem (v := (x11.2.1.tmod 3)) rfl rfl rfl rfl (by decide) rfl ?_
           exact dq hbi rfl
          ·intro σ β w1 hE1 hbi hk
           have hz1 := hE1.size
           obtain ⟨_, hv53, rfl⟩ := kn hk 2 rfl rfl
           refine ⟨[(141, .int .u8 (x11.2.1.tmod 3))], (ag hv53 (agree_nil _)), ?_⟩
           refine WL.convInt (v := (x11.2.1.tmod 3)) rfl rfl Try.underlying5 Try.underlying3 rfl (by have := Nd.mod_bd (x := x11.2.1) (n := 3) (by omega) (by decide); exact IntWalk.i64_in _ (by omega)) ?_
           exact dq hbi rfl
          ·intro σ β w1 hE1 hbi hk
           have hz1 := hE1.size
           refine ⟨[], (agree_nil _), ?_⟩
           refine WL.fieldAddr rfl rfl Ty.fld49_2 rfl ?_
           exact dq hbi rfl
          ·intro σ β w1 hE1 hbi hk
           have hz1 := hE1.size
           obtain ⟨_, hv53, rfl⟩ := kn hk 4 rfl rfl
           refine ⟨[(143, pt b12 2)], (ag hv53 (agree_nil _)), ?_⟩
           refine WL.load_fld rfl rfl Ty.flat5 rfl (hR18.ext hE1) rfl ?_
           exact dq hbi rfl
          ·intro σ β w1 hE1 hbi hk
           have hz1 := hE1.size
           obtain ⟨_, hv53, rfl⟩ := kn hk 5 rfl rfl
           refine ⟨[(144, .int .u8 x11.2.2)], (ag hv53 (agree_nil _)), ?_⟩
           refine WL.rem (v := (x11.2.2.tmod 4)) rfl rfl rfl rfl (by decide) rfl ?_
           exact dq hbi rfl
          ·intro σ β w1 hE1 hbi hk
           have hz1 := hE1.size
           obtain ⟨_, hv53, rfl⟩ := kn hk 6 rfl rfl
           refine ⟨[(145, .int .u8 (x11.2.2.tmod 4))], (ag hv53 (agree_nil _)), ?_⟩
           refine WL.convInt (v := (x11.2.2.tmod 4)) rfl rfl Try.underlying5 Try.underlying3 rfl (by have := Nd.mod_bd (x := x11.2.2) (n := 4) (by omega) (by decide); exact IntWalk.i64_in _ (by omega)) ?_
           exact dq hbi rfl
          ·intro σ β w1 hE1 hbi hk
           have hz1 := hE1.size
           obtain ⟨_, hv53, rfl⟩ := kn hk 3 rfl rfl
           refine ⟨[(142, .int .i64 (x11.2.1.tmod 3))], (ag hv53 (agree_nil _)), ?_⟩
           refine WL.assign rfl rfl rfl ?_
           exact dq hbi rfl
          intro σ β w33 hE33 hbi33 hk
          have hz33 := hE33.size
          have hbi := hbi33
          obtain ⟨_, hv34, rfl⟩ := hk 7 (by decide) _ _ rfl rfl
          obtain ⟨_, hv35, rfl⟩ := hk 8 (by decide) _ _ rfl rfl
          refine WL.know [(146, .int .i64 (x11.2.2.tmod 4)), (10, .int .i64 (x11.2.1.tmod 3))] (ag hv34 (ag hv35 (agree_nil _))) ?_
          refine WL.assign rfl rfl rfl ?_
          refine WL.dn ?_
          refine WC.seqk ?_
          refine WC.seqk ?_
          refine WC.region ?_
          refine WL.move rfl rfl rfl ?_
          refine WL.move rfl rfl rfl ?_
          cases hc36 : decide (((x11.2.2.tmod 4) : Int) < (x11.2.1.tmod 3)) with
          | false =>
           refine WL.lss rfl rfl rfl rfl hc36 ?_
           have hp36 := of_decide_eq_false hc36
           refine WL.move rfl rfl rfl ?_
           refine WL.move rfl rfl rfl ?_
           cases hc37 : (((x11.2.2.tmod 4) : Int) == 0) with
           | false =>
            refine WL.eql rfl rfl rfl rfl hc37 ?_
            have hp37 := beq_eq_false_iff_ne.1 hc37
            refine WL.pick_f rfl rfl rfl rfl ?_
            refine WL.move rfl rfl rfl ?_
            refine WL.move rfl rfl rfl ?_
            cases hc38 : (((x11.2.1.tmod 3) : Int) == 1) with
            | false =>
             refine WL.eql rfl rfl rfl rfl hc38 ?_
             have hp38 := beq_eq_false_iff_ne.1 hc38
             refine WL.move rfl rfl rfl ?_
             refine WL.pass rfl rfl ?_
             refine WL.pass rfl rfl ?_
             refine WL.pick_f rfl rfl rfl rfl ?_
             refine WL.pick_f rfl rfl rfl rfl ?_
             refine WL.dn ?_
             refine WC.cond_f rfl ?_
             refine WC.sk ?_
             refine WC.seqk ?_
             refine WC.region ?_
             refine WL.move rfl rfl rfl ?_
             refine WL.move rfl rfl rfl ?_
             refine WL.max3 (v := Nd.max3 (x11.2.1.tmod 3) (x11.2.2.tmod 4) 1) rfl rfl rfl rfl rfl rfl ?_
             refine WL.assign rfl rfl rfl ?_
             refine WL.dn ?_
             refine WC.seqk ?_
             refine WC.region ?_
             refine WL.move rfl rfl rfl ?_
             refine WL.move rfl rfl rfl ?_
             refine WL.mul (v := u * (Nd.max3 (x11.2.1.tmod 3) (x11.2.2.tmod 4) 1)) rfl rfl rfl rfl (IntWalk.i64_in _ (by have h1 := Nd.mod_bd (x := x11.2.1) (n := 3) (by omega) (by decide); have h2 := Nd.mod_bd (x := x11.2.2) (n := 4) (by omega) (by decide); have := Nd.mul_bd hb3 hb4 (Nd.max3_bd (a := x11.2.1.tmod 3) (b := x11.2.2.tmod 4) (by omega) (by omega)); omega)) ?_
             cases hc39 : decide (((u * (Nd.max3 (x11.2.1.tmod 3) (x11.2.2.tmod 4) 1)) : Int) ≤ 16) with
             | false =>
              refine WL.leq rfl rfl rfl rfl hc39 ?_
              have hp39 := of_decide_eq_false hc39
              refine WL.dn ?_
              refine WC.cond_f rfl ?_
              refine WC.sk ?_
              refine WC.region ?_
              refine WL.add (v := (k : Int) + 1) rfl rfl rfl rfl (IntWalk.i64_in _ (by omega)) ?_
              refine WL.move rfl rfl rfl ?_
              refine WL.nil (fun a_ ha => ?_)
              exact ⟨(k + 1, .slice (some ⟨eb29, 0, none⟩) pile.length capp, ⟨pile, u, gr⟩), _, ha.weaken (sr rfl (sr rfl (sr rfl (sr rfl (sr rfl (sr rfl (sr rfl (subReg_nil _)))))))), ⟨rfl, ((hB19.onto (hE7.trans hE16) (by omega)).trans hE33), ⟨by first | omega | (dsimp only; omega), by omega, (by rw [Nd.madeSt_succ hx11, ← hst]; simp only [Nd.stepM, hc10, hc21, hc22, hc23, hc24, hc25, hc26, hc27, hc30, hc36, hc37, hc38, hc39, Nd.mostM, Nd.empty, Nd.top_at ht29, Bool.or_true, Bool.true_or, Bool.or_false, Bool.false_or, cond_true, cond_false, Bool.true_and, Bool.false_and, Bool.and_true, Bool.and_false]), (h32.ext hE33), ((h31.ext hE33).dom (by intro k h1 _ _; (try dsimp only at h1); (repeat' first | (guard_hyp h1 : _ ∨ _; refine Or.elim h1 (fun h1 => ?_) (fun h1 => ?_)) | (guard_hyp h1 : _ ∧ _; have hx := h1.2; replace h1 := h1.1)) <;> first | contradiction | omega | (dsimp only; omega)))⟩⟩, by first | omega | (dsimp only; omega)⟩
             | true =>
              refine WL.leq rfl rfl rfl rfl hc39 ?_
              have hp39 := of_decide_eq_true hc39
              refine WL.dn ?_
              refine WC.cond_t rfl ?_
              refine WC.seqk ?_
              refine WC.region ?_
              refine WL.move rfl rfl rfl ?_
              refine WL.move rfl rfl rfl ?_
              refine WL.mul (v := u * (Nd.max3 (x11.2.1.tmod 3) (x11.2.2.tmod 4) 1)) rfl rfl rfl rfl (IntWalk.i64_in _ (by have h1 := Nd.mod_bd (x := x11.2.1) (n := 3) (by omega) (by decide); have h2 := Nd.mod_bd (x := x11.2.2) (n := 4) (by omega) (by decide); have := Nd.mul_bd hb3 hb4 (Nd.max3_bd (a := x11.2.1.tmod 3) (b := x11.2.2.tmod 4) (by omega) (by omega)); omega)) ?_
              refine WL.assign rfl rfl rfl ?_
              refine WL.dn ?_
              refine WC.region ?_
              refine WL.move rfl rfl rfl ?_
              refine WL.move rfl rfl rfl ?_
              refine WL.sub (v := ((pile.length - 1 : Nat) : Int)) rfl rfl rfl rfl (by rw [IntWalk.i64_in _ (by omega)]; omega) ?_
              refine WL.move rfl rfl rfl ?_
              refine WL.move rfl rfl rfl ?_
              refine WL.sub (v := ((pile.length - 1 : Nat) : Int)) rfl rfl rfl rfl (by rw [IntWalk.i64_in _ (by omega)]; omega) ?_
              refine WL.indexAddr (i := (pile.length - 1)) rfl rfl Ty.slice24 rfl rfl rfl (by omega) ?_
              refine WL.load_agg (l := tcells t29 (.slice a29 t29.subs.length cap29)) rfl rfl Ty.agg30 rfl (her29.ext hE33) ?_
              refine WL.move rfl rfl rfl ?_
              refine WL.move rfl rfl rfl ?_
              refine WL.call rfl rfl rfl Ty.ent24 (rep_ok _ _ _ t29 (x11.2.1.tmod 3) (x11.2.2.tmod 4) (hn29.ext hE33)) ?_
              rintro _ w42 ⟨l40, rfl, hr40, hE41⟩
              have hzhE41 := hE41.size
              refine ⟨_, rfl, ?_⟩
              have hn40 := hr40.lt
              obtain ⟨a40, cap40, rfl, hts40, hlen40⟩ := hn40.op2
              refine WL.indexAddr (i := (pile.length - 1)) rfl rfl Ty.slice24 rfl rfl rfl (by omega) ?_
              have h45 := ((h28.ext hE33).ext hE41)
              refine WL.storeV (i := (pile.length - 1)) (T := (Nd.mk 5 Nd.zero (x11.2.1.tmod 3) (x11.2.2.tmod 4) [t29])) rfl Ty.agg30 rfl rfl h45 (by omega) hn40 (by first | (rintro k ⟨h1, h2⟩ h3; first | omega | (dsimp only at h1; omega)) | (intro k h1 h3; (try dsimp only at h1); (repeat' first | (guard_hyp h1 : _ ∨ _; refine Or.elim h1 (fun h1 => ?_) (fun h1 => ?_)) | (guard_hyp h1 : _ ∧ _; have hx := h1.2; replace h1 := h1.1)) <;> first | contradiction | omega)) (fun w46 hB44 hM43 => ?_)
              have hzhB44 := hB44.size
              refine WL.dn ?_
              refine WC.region ?_
              refine WL.add (v := (k : Int) + 1) rfl rfl rfl rfl (IntWalk.i64_in _ (by omega)) ?_
              refine WL.move rfl rfl rfl ?_
              refine WL.nil (fun a_ ha => ?_)
              have h47 := (hB44.row ((h32.ext hE33).ext hE41) (by omega))
              exact ⟨(k + 1, .slice (some ⟨eb29, 0, none⟩) pile.length capp, ⟨(pile.set (pile.length - 1) (Nd.mk 5 Nd.zero (x11.2.1.tmod 3) (x11.2.2.tmod 4) [t29])), u * (Nd.max3 (x11.2.1.tmod 3) (x11.2.2.tmod 4) 1), gr⟩), _, ha.weaken (sr rfl (sr rfl (sr rfl (sr rfl (sr rfl (sr rfl (sr rfl (subReg_nil _)))))))), ⟨rfl, (hB44.onto (((hB19.onto (hE7.trans hE16) (by omega)).trans hE33).trans hE41) (by omega)), ⟨by first | omega | (dsimp only; omega), by omega, (by rw [Nd.madeSt_succ hx11, ← hst]; simp only [Nd.stepM, hc10, hc21, hc22, hc23, hc24, hc25, hc26, hc27, hc30, hc36, hc37, hc38, hc39, Nd.mostM, Nd.empty, Nd.top_at ht29, Bool.or_true, Bool.true_or, Bool.or_false, Bool.false_or, cond_true, cond_false, Bool.true_and, Bool.false_and, Bool.and_true, Bool.and_false]), h47, ((hM43).own (by rintro i b hi h1 h2 h3; (try dsimp only at h1); omega))⟩⟩, by first | omega | (dsimp only; omega)⟩
            | true =>
             refine WL.eql rfl rfl rfl rfl hc38 ?_
             have hp38 := beq_iff_eq.1 hc38
             refine WL.move rfl rfl rfl ?_
             refine WL.move rfl rfl rfl ?_
             cases hc39 : (((x11.2.2.tmod 4) : Int) == 1) with
             | false =>
              refine WL.eql rfl rfl rfl rfl hc39 ?_
              have hp39 := beq_eq_false_iff_ne.1 hc39
              refine WL.pick_t rfl rfl rfl rfl ?_
              refine WL.pick_f rfl rfl rfl rfl ?_
              refine WL.dn ?_
              refine WC.cond_f rfl ?_
              refine WC.sk ?_
              refine WC.seqk ?_
              refine WC.region ?_
              refine WL.move rfl rfl rfl ?_
              refine WL.move rfl rfl rfl ?_
              refine WL.max3 (v := Nd.max3 (x11.2.1.tmod 3) (x11.2.2.tmod 4) 1) rfl rfl rfl rfl rfl rfl ?_
              refine WL.assign rfl rfl rfl ?_
              refine WL.dn ?_
              refine WC.seqk ?_
              refine WC.region ?_
              refine WL.move rfl rfl rfl ?_
              refine WL.move rfl rfl rfl ?_
              refine WL.mul (v := u * (Nd.max3 (x11.2.1.tmod 3) (x11.2.2.tmod 4) 1)) rfl rfl rfl rfl (IntWalk.i64_in _ (by have h1 := Nd.mod_bd (x := x11.2.1) (n := 3) (by omega) (by decide); have h2 := Nd.mod_bd (x := x11.2.2) (n := 4) (by omega) (by decide); have := Nd.mul_bd hb3 hb4 (Nd.max3_bd (a := x11.2.1.tmod 3) (b := x11.2.2.tmod 4) (by omega) (by omega)); omega)) ?_
              cases hc40 : decide (((u * (Nd.max3 (x11.2.1.tmod 3) (x11.2.2.tmod 4) 1)) : Int) ≤ 16) with
              | false =>
               refine WL.leq rfl rfl rfl rfl hc40 ?_
               have hp40 := of_decide_eq_false hc40
               refine WL.dn ?_
               refine WC.cond_f rfl ?_
               refine WC.sk ?_
               refine WC.region ?_
               refine WL.add (v := (k : Int) + 1) rfl rfl rfl rfl (IntWalk.i64_in _ (by omega)) ?_
               refine WL.move rfl rfl rfl ?_
               refine WL.nil (fun a_ ha => ?_)
               exact ⟨(k + 1, .slice (some ⟨eb29, 0, none⟩) pile.length capp, ⟨pile, u, gr⟩), _, ha.weaken (sr rfl (sr rfl (sr rfl (sr rfl (sr rfl (sr rfl (sr rfl (subReg_nil _)))))))), ⟨rfl, ((hB19.onto (hE7.trans hE16) (by omega)).trans hE33), ⟨by first | omega | (dsimp only; omega), by omega, (by rw [Nd.madeSt_succ hx11, ← hst]; simp only [Nd.stepM, hc10, hc21, hc22, hc23, hc24, hc25, hc26, hc27, hc30, hc36, hc37, hc38, hc39, hc40, Nd.mostM, Nd.empty, Nd.top_at ht29, Bool.or_true, Bool.true_or, Bool.or_false, Bool.false_or, cond_true, cond_false, Bool.true_and, Bool.false_and, Bool.and_true, Bool.and_false]), (h32.ext hE33), ((h31.ext hE33).dom (by intro k h1 _ _; (try dsimp only at h1); (repeat' first | (guard_hyp h1 : _ ∨ _; refine Or.elim h1 (fun h1 => ?_) (fun h1 => ?_)) | (guard_hyp h1 : _ ∧ _; have hx := h1.2; replace h1 := h1.1)) <;> first | contradiction | omega | (dsimp only; omega)))⟩⟩, by first | omega | (dsimp only; omega)⟩
              | true =>
               refine WL.leq rfl rfl rfl rfl hc40 ?_
               have hp40 := of_decide_eq_true hc40
               refine WL.dn ?_
               refine WC.cond_t rfl ?_
               refine WC.seqk ?_
               refine WC.region ?_
               refine WL.move rfl rfl rfl ?_
               refine WL.move rfl rfl rfl ?_
               refine WL.mul (v := u * (Nd.max3 (x11.2.1.tmod 3) (x11.2.2.tmod 4) 1)) rfl rfl rfl rfl (IntWalk.i64_in _ (by have h1 := Nd.mod_bd (x := x11.2.1) (n := 3) (by omega) (by decide); have h2 := Nd.mod_bd (x := x11.2.2) (n := 4) (by omega) (by decide); have := Nd.mul_bd hb3 hb4 (Nd.max3_bd (a := x11.2.1.tmod 3) (b := x11.2.2.tmod 4) (by omega) (by omega)); omega)) ?_
               refine WL.assign rfl rfl rfl ?_
               refine WL.dn ?_
               refine WC.region ?_
               refine WL.move rfl rfl rfl ?_
               refine WL.move rfl rfl rfl ?_
               refine WL.sub (v := ((pile.length - 1 : Nat) : Int)) rfl rfl rfl rfl (by rw [IntWalk.i64_in _ (by omega)]; omega) ?_
               refine WL.move rfl rfl rfl ?_
               refine WL.move rfl rfl rfl ?_
               refine WL.sub (v := ((pile.length - 1 : Nat) : Int)) rfl rfl rfl rfl (by rw [IntWalk.i64_in _ (by omega)]; omega) ?_
               refine WL.indexAddr (i := (pile.length - 1)) rfl rfl Ty.slice24 rfl rfl rfl (by omega) ?_
               refine WL.load_agg (l := tcells t29 (.slice a29 t29.subs.length cap29)) rfl rfl Ty.agg30 rfl (her29.ext hE33) ?_
               refine WL.move rfl rfl rfl ?_
               refine WL.move rfl rfl rfl ?_
               refine WL.call rfl rfl rfl Ty.ent24 (rep_ok _ _ _ t29 (x11.2.1.tmod 3) (x11.2.2.tmod 4) (hn29.ext hE33)) ?_
               rintro _ w43 ⟨l41, rfl, hr41, hE42⟩
               have hzhE42 := hE42.size
               refine ⟨_, rfl, ?_⟩
               have hn41 := hr41.lt
               obtain ⟨a41, cap41, rfl, hts41, hlen41⟩ := hn41.op2
               refine WL.indexAddr (i := (pile.length - 1)) rfl rfl Ty.slice24 rfl rfl rfl (by omega) ?_
               have h46 := ((h28.ext hE33).ext hE42)
               refine WL.storeV (i := (pile.length - 1)) (T := (Nd.mk 5 Nd.zero (x11.2.1.tmod 3) (x11.2.2.tmod 4) [t29])) rfl Ty.agg30 rfl rfl h46 (by omega) hn41 (by first | (rintro k ⟨h1, h2⟩ h3; first | omega | (dsimp only at h1; omega)) | (intro k h1 h3; (try dsimp only at h1); (repeat' first | (guard_hyp h1 : _ ∨ _; refine Or.elim h1 (fun h1 => ?_) (fun h1 => ?_)) | (guard_hyp h1 : _ ∧ _; have hx := h1.2; replace h1 := h1.1)) <;> first | contradiction | omega)) (fun w47 hB45 hM44 => ?_)
               have hzhB45 := hB45.size
               refine WL.dn ?_
               refine WC.region ?_
               refine WL.add (v := (k : Int) + 1) rfl rfl rfl rfl (IntWalk.i64_in _ (by omega)) ?_
               refine WL.move rfl rfl rfl ?_
               refine WL.nil (fun a_ ha => ?_)
               have h48 := (hB45.row ((h32.ext hE33).ext hE42) (by omega))
               exact ⟨(k + 1, .slice (some ⟨eb29, 0, none⟩) pile.length capp, ⟨(pile.set (pile.length - 1) (Nd.mk 5 Nd.zero (x11.2.1.tmod 3) (x11.2.2.tmod 4) [t29])), u * (Nd.max3 (x11.2.1.tmod 3) (x11.2.2.tmod 4) 1), gr⟩), _, ha.weaken (sr rfl (sr rfl (sr rfl (sr rfl (sr rfl (sr rfl (sr rfl (subReg_nil _)))))))), ⟨rfl, (hB45.onto (((hB19.onto (hE7.trans hE16) (by omega)).trans hE33).trans hE42) (by omega)), ⟨by first | omega | (dsimp only; omega), by omega, (by rw [Nd.madeSt_succ hx11, ← hst]; simp only [Nd.stepM, hc10, hc21, hc22, hc23, hc24, hc25, hc26, hc27, hc30, hc36, hc37, hc38, hc39, hc40, Nd.mostM, Nd.empty, Nd.top_at ht29, Bool.or_true, Bool.true_or, Bool.or_false, Bool.false_or, cond_true, cond_false, Bool.true_and, Bool.false_and, Bool.and_true, Bool.and_false]), h48, ((hM44).own (by rintro i b hi h1 h2 h3; (try dsimp only at h1); omega))⟩⟩, by first | omega | (dsimp only; omega)⟩
             | true =>
              refine WL.eql rfl rfl rfl rfl hc39 ?_
              have hp39 := beq_iff_eq.1 hc39
              refine WL.pick_t rfl rfl rfl rfl ?_
              refine WL.pick_f rfl rfl rfl rfl ?_
              refine WL.dn ?_
              refine WC.cond_t rfl ?_
              refine WC.region ?_
              refine WL.assign rfl rfl rfl ?_
              refine WL.dn ?_
              refine WC.seqk ?_
              refine WC.region ?_
              refine WL.move rfl rfl rfl ?_
              refine WL.move rfl rfl rfl ?_
              refine WL.max3 (v := Nd.max3 (x11.2.1.tmod 3) (-1) 1) rfl rfl rfl rfl rfl rfl ?_
              refine WL.assign rfl rfl rfl ?_
              refine WL.dn ?_
              refine WC.seqk ?_
              refine WC.region ?_
              refine WL.move rfl rfl rfl ?_
              refine WL.move rfl rfl rfl ?_
              refine WL.mul (v := u * (Nd.max3 (x11.2.1.tmod 3) (-1) 1)) rfl rfl rfl rfl (IntWalk.i64_in _ (by have h1 := Nd.mod_bd (x := x11.2.1) (n := 3) (by omega) (by decide); have h2 := Nd.mod_bd (x := x11.2.2) (n := 4) (by omega) (by decide); have := Nd.mul_bd hb3 hb4 (Nd.max3_bd (a := x11.2.1.tmod 3) (b := -1) (by omega) (by omega)); omega)) ?_
              cases hc40 : decide (((u * (Nd.max3 (x11.2.1.tmod 3) (-1) 1)) : Int) ≤ 16) with
              | false =>
               refine WL.leq rfl rfl rfl rfl hc40 ?_
               have hp40 := of_decide_eq_false hc40
               refine WL.dn ?_
               refine WC.cond_f rfl ?_
               refine WC.sk ?_
               refine WC.region ?_
               refine WL.add (v := (k : Int) + 1) rfl rfl rfl rfl (IntWalk.i64_in _ (by omega)) ?_
               refine WL.move rfl rfl rfl ?_
               refine WL.nil (fun a_ ha => ?_)
               exact ⟨(k + 1, .slice (some ⟨eb29, 0, none⟩) pile.length capp, ⟨pile, u, gr⟩), _, ha.weaken (sr rfl (sr rfl (sr rfl (sr rfl (sr rfl (sr rfl (sr rfl (subReg_nil _)))))))), ⟨rfl, ((hB19.onto (hE7.trans hE16) (by omega)).trans hE33), ⟨by first | omega | (dsimp only; omega), by omega, (by rw [Nd.madeSt_succ hx11, ← hst]; simp only [Nd.stepM, hc10, hc21, hc22, hc23, hc24, hc25, hc26, hc27, hc30, hc36, hc37, hc38, hc39, hc40, Nd.mostM, Nd.empty, Nd.top_at ht29, Bool.or_true, Bool.true_or, Bool.or_false, Bool.false_or, cond_true, cond_false, Bool.true_and, Bool.false_and, Bool.and_true, Bool.and_false]), (h32.ext hE33), ((h31.ext hE33).dom (by intro k h1 _ _; (try dsimp only at h1); (repeat' first | (guard_hyp h1 : _ ∨ _; refine Or.elim h1 (fun h1 => ?_) (fun h1 => ?_)) | (guard_hyp h1 : _ ∧ _; have hx := h1.2; replace h1 := h1.1)) <;> first | contradiction | omega | (dsimp only; omega)))⟩⟩, by first | omega | (dsimp only; omega)⟩
              | true =>
               refine WL.leq rfl rfl rfl rfl hc40 ?_
               have hp40 := of_decide_eq_true hc40
               refine WL.dn ?_
               refine WC.cond_t rfl ?_
               refine WC.seqk ?_
               refine WC.region ?_
               refine WL.move rfl rfl rfl ?_
               refine WL.move rfl rfl rfl ?_
               refine WL.mul (v := u * (Nd.max3 (x11.2.1.tmod 3) (-1) 1)) rfl rfl rfl rfl (IntWalk.i64_in _ (by have h1 := Nd.mod_bd (x := x11.2.1) (n := 3) (by omega) (by decide); have h2 := Nd.mod_bd (x := x11.2.2) (n := 4) (by omega) (by decide); have := Nd.mul_bd hb3 hb4 (Nd.max3_bd (a := x11.2.1.tmod 3) (b := -1) (by omega) (by omega)); omega)) ?_
               refine WL.assign rfl rfl rfl ?_
               refine WL.dn ?_
               refine WC.region ?_
               refine WL.move rfl rfl rfl ?_
               refine WL.move rfl rfl rfl ?_
               refine WL.sub (v := ((pile.length - 1 : Nat) : Int)) rfl rfl rfl rfl (by rw [IntWalk.i64_in _ (by omega)]; omega) ?_
               refine WL.move rfl rfl rfl ?_
               refine WL.move rfl rfl rfl ?_
               refine WL.sub (v := ((pile.length - 1 : Nat) : Int)) rfl rfl rfl rfl (by rw [IntWalk.i64_in _ (by omega)]; omega) ?_
               refine WL.indexAddr (i := (pile.length - 1)) rfl rfl Ty.slice24 rfl rfl rfl (by omega) ?_
               refine WL.load_agg (l := tcells t29 (.slice a29 t29.subs.length cap29)) rfl rfl Ty.agg30 rfl (her29.ext hE33) ?_
               refine WL.move rfl rfl rfl ?_
               refine WL.move rfl rfl rfl ?_
               refine WL.call rfl rfl rfl Ty.ent24 (rep_ok _ _ _ t29 (x11.2.1.tmod 3) (-1) (hn29.ext hE33)) ?_
               rintro _ w43 ⟨l41, rfl, hr41, hE42⟩
               have hzhE42 := hE42.size
               refine ⟨_, rfl, ?_⟩
               have hn41 := hr41.lt
               obtain ⟨a41, cap41, rfl, hts41, hlen41⟩ := hn41.op2
               refine WL.indexAddr (i := (pile.length - 1)) rfl rfl Ty.slice24 rfl rfl rfl (by omega) ?_
               have h46 := ((h28.ext hE33).ext hE42)
               refine WL.storeV (i := (pile.length - 1)) (T := (Nd.mk 5 Nd.zero (x11.2.1.tmod 3) (-1) [t29])) rfl Ty.agg30 rfl rfl h46 (by omega) hn41 (by first | (rintro k ⟨h1, h2⟩ h3; first | omega | (dsimp only at h1; omega)) | (intro k h1 h3; (try dsimp only at h1); (repeat' first | (guard_hyp h1 : _ ∨ _; refine Or.elim h1 (fun h1 => ?_) (fun h1 => ?_)) | (guard_hyp h1 : _ ∧ _; have hx := h1.2; replace h1 := h1.1)) <;> first | contradiction | omega)) (fun w47 hB45 hM44 => ?_)
               have hzhB45 := hB45.size
               refine WL.dn ?_
               refine WC.region ?_
               refine WL.add (v := (k : Int) + 1) rfl rfl rfl rfl (IntWalk.i64_in _ (by omega)) ?_
               refine WL.move rfl rfl rfl ?_
               refine WL.nil (fun a_ ha => ?_)
               have h48 := (hB45.row ((h32.ext hE33).ext hE42) (by omega))
               exact ⟨(k + 1, .slice (some ⟨eb29, 0, none⟩) pile.length capp, ⟨(pile.set (pile.length - 1) (Nd.mk 5 Nd.zero (x11.2.1.tmod 3) (-1) [t29])), u * (Nd.max3 (x11.2.1.tmod 3) (-1) 1), gr⟩), _, ha.weaken (sr rfl (sr rfl (sr rfl (sr rfl (sr rfl (sr rfl (sr rfl (subReg_nil _)))))))), ⟨rfl, (hB45.onto (((hB19.onto (hE7.trans hE16) (by omega)).trans hE33).trans hE42) (by omega)), ⟨by first | omega | (dsimp only; omega), by omega, (by rw [Nd.madeSt_succ hx11, ← hst]; simp only [Nd.stepM, hc10, hc21, hc22, hc23, hc24, hc25, hc26, hc27, hc30, hc36, hc37, hc38, hc39, hc40, Nd.mostM, Nd.empty, Nd.top_at ht29, Bool.or_true, Bool.true_or, Bool.or_false, Bool.false_or, cond_true, cond_false, Bool.true_and, Bool.false_and, Bool.and_true, Bool.and_false]), h48, ((hM44).own (by rintro i b hi h1 h2 h3; (try dsimp only at h1); omega))⟩⟩, by first | omega | (dsimp only; omega)⟩
           | true =>
            refine WL.eql rfl rfl rfl rfl hc37 ?_
            have hp37 := beq_iff_eq.1 hc37
            refine WL.pick_f rfl rfl rfl rfl ?_
            refine WL.move rfl rfl rfl ?_
            refine WL.pass rfl rfl ?_
            refine WL.pass rfl rfl ?_
            refine WL.pass rfl rfl ?_
            refine WL.pass rfl rfl ?_
            refine WL.pass rfl rfl ?_
            refine WL.pass rfl rfl ?_
            refine WL.pick_t rfl rfl rfl rfl ?_
            refine WL.dn ?_
            refine WC.cond_t rfl ?_
            refine WC.region ?_
            refine WL.assign rfl rfl rfl ?_
            refine WL.dn ?_
            refine WC.seqk ?_
            refine WC.region ?_
            refine WL.move rfl rfl rfl ?_
            refine WL.move rfl rfl rfl ?_
            refine WL.max3 (v := Nd.max3 (x11.2.1.tmod 3) (-1) 1) rfl rfl rfl rfl rfl rfl ?_
            refine WL.assign rfl rfl rfl ?_
            refine WL.dn ?_
            refine WC.seqk ?_
            refine WC.region ?_
            refine WL.move rfl rfl rfl ?_
            refine WL.move rfl rfl rfl ?_
            refine WL.mul (v := u * (Nd.max3 (x11.2.1.tmod 3) (-1) 1)) rfl rfl rfl rfl (IntWalk.i64_in _ (by have h1 := Nd.mod_bd (x := x11.2.1) (n := 3) (by omega) (by decide); have h2 := Nd.mod_bd (x := x11.2.2) (n := 4) (by omega) (by decide); have := Nd.mul_bd hb3 hb4 (Nd.max3_bd (a := x11.2.1.tmod 3) (b := -1) (by omega) (by omega)); omega)) ?_
            cases hc38 : decide (((u * (Nd.max3 (x11.2.1.tmod 3) (-1) 1)) : Int) ≤ 16) with
            | false =>
             refine WL.leq rfl rfl rfl rfl hc38 ?_
             have hp38 := of_decide_eq_false hc38
             refine WL.dn ?_
             refine WC.cond_f rfl ?_
             refine WC.sk ?_
             refine WC.region ?_
             refine WL.add (v := (k : Int) + 1) rfl rfl rfl rfl (IntWalk.i64_in _ (by omega)) ?_
             refine WL.move rfl rfl rfl ?_
             refine WL.nil (fun a_ ha => ?_)
             exact ⟨(k + 1, .slice (some ⟨eb29, 0, none⟩) pile.length capp, ⟨pile, u, gr⟩), _, ha.weaken (sr rfl (sr rfl (sr rfl (sr rfl (sr rfl (sr rfl (sr rfl (subReg_nil _)))))))), ⟨rfl, ((hB19.onto (hE7.trans hE16) (by omega)).trans hE33), ⟨by first | omega | (dsimp only; omega), by omega, (by rw [Nd.madeSt_succ hx11, ← hst]; simp only [Nd.stepM, hc10, hc21, hc22, hc23, hc24, hc25, hc26, hc27, hc30, hc36, hc37, hc38, Nd.mostM, Nd.empty, Nd.top_at ht29, Bool.or_true, Bool.true_or, Bool.or_false, Bool.false_or, cond_true, cond_false, Bool.true_and, Bool.false_and, Bool.and_true, Bool.and_false]), (h32.ext hE33), ((h31.ext hE33).dom (by intro k h1 _ _; (try dsimp only at h1); (repeat' first | (guard_hyp h1 : _ ∨ _; refine Or.elim h1 (fun h1 => ?_) (fun h1 => ?_)) | (guard_hyp h1 : _ ∧ _; have hx := h1.2; replace h1 := h1.1)) <;> first | contradiction | omega | (dsimp only; omega)))⟩⟩, by first | omega | (dsimp only; omega)⟩
            | true =>
             refine WL.leq rfl rfl rfl rfl hc38 ?_
             have hp38 := of_decide_eq_true hc38
             refine WL.dn ?_
             refine WC.cond_t rfl ?_
             refine WC.seqk ?_
             refine WC.region ?_
             refine WL.move rfl rfl rfl ?_
             refine WL.move rfl rfl rfl ?_
             refine WL.mul (v := u * (Nd.max3 (x11.2.1.tmod 3) (-1) 1)) rfl rfl rfl rfl (IntWalk.i64_in _ (by have h1 := Nd.mod_bd (x := x11.2.1) (n := 3) (by omega) (by decide); have h2 := Nd.mod_bd (x := x11.2.2) (n := 4) (by omega) (by decide); have := Nd.mul_bd hb3 hb4 (Nd.max3_bd (a := x11.2.1.tmod 3) (b := -1) (by omega) (by omega)); omega)) ?_
             refine WL.assign rfl rfl rfl ?_
             refine WL.dn ?_
             refine WC.region ?_
             refine WL.move rfl rfl rfl ?_
             refine WL.move rfl rfl rfl ?_
             refine WL.sub (v := ((pile.length - 1 : Nat) : Int)) rfl rfl rfl rfl (by rw [IntWalk.i64_in _ (by omega)]; omega) ?_
             refine WL.move rfl rfl rfl ?_
             refine WL.move rfl rfl rfl ?_
             refine WL.sub (v := ((pile.length - 1 : Nat) : Int)) rfl rfl rfl rfl (by rw [IntWalk.i64_in _ (by omega)]; omega) ?_
             refine WL.indexAddr (i := (pile.length - 1)) rfl rfl Ty.slice24 rfl rfl rfl (by omega) ?_
             refine WL.load_agg (l := tcells t29 (.slice a29 t29.subs.length cap29)) rfl rfl Ty.agg30 rfl (her29.ext hE33) ?_
             refine WL.move rfl rfl rfl ?_
             refine WL.move rfl rfl rfl ?_
             refine WL.call rfl rfl rfl Ty.ent24 (rep_ok _ _ _ t29 (x11.2.1.tmod 3) (-1) (hn29.ext hE33)) ?_
             rintro _ w41 ⟨l39, rfl, hr39, hE40⟩
             have hzhE40 := hE40.size
             refine ⟨_, rfl, ?_⟩
             have hn39 := hr39.lt
             obtain ⟨a39, cap39, rfl, hts39, hlen39⟩ := hn39.op2
             refine WL.indexAddr (i := (pile.length - 1)) rfl rfl Ty.slice24 rfl rfl rfl (by omega) ?_
             have h44 := ((h28.ext hE33).ext hE40)
             refine WL.storeV (i := (pile.length - 1)) (T := (Nd.mk 5 Nd.zero (x11.2.1.tmod 3) (-1) [t29])) rfl Ty.agg30 rfl rfl h44 (by omega) hn39 (by first | (rintro k ⟨h1, h2⟩ h3; first | omega | (dsimp only at h1; omega)) | (intro k h1 h3; (try dsimp only at h1); (repeat' first | (guard_hyp h1 : _ ∨ _; refine Or.elim h1 (fun h1 => ?_) (fun h1 => ?_)) | (guard_hyp h1 : _ ∧ _; have hx := h1.2; replace h1 := h1.1)) <;> first | contradiction | omega)) (fun w45 hB43 hM42 => ?_)
             have hzhB43 := hB43.size
             refine WL.dn ?_
             refine WC.region ?_
             refine WL.add (v := (k : Int) + 1) rfl rfl rfl rfl (IntWalk.i64_in _ (by omega)) ?_
             refine WL.move rfl rfl rfl ?_
             refine WL.nil (fun a_ ha => ?_)
             have h46 := (hB43.row ((h32.ext hE33).ext hE40) (by omega))
             exact ⟨(k + 1, .slice (some ⟨eb29, 0, none⟩) pile.length capp, ⟨(pile.set (pile.length - 1) (Nd.mk 5 Nd.zero (x11.2.1.tmod 3) (-1) [t29])), u * (Nd.max3 (x11.2.1.tmod 3) (-1) 1), gr⟩), _, ha.weaken (sr rfl (sr rfl (sr rfl (sr rfl (sr rfl (sr rfl (sr rfl (subReg_nil _)))))))), ⟨rfl, (hB43.onto (((hB19.onto (hE7.trans hE16) (by omega)).trans hE33).trans hE40) (by omega)), ⟨by first | omega | (dsimp only; omega), by omega, (by rw [Nd.madeSt_succ hx11, ← hst]; simp only [Nd.stepM, hc10, hc21, hc22, hc23, hc24, hc25, hc26, hc27, hc30, hc36, hc37, hc38, Nd.mostM, Nd.empty, Nd.top_at ht29, Bool.or_true, Bool.true_or, Bool.or_false, Bool.false_or, cond_true, cond_false, Bool.true_and, Bool.false_and, Bool.and_true, Bool.and_false]), h46, ((hM42).own (by rintro i b hi h1 h2 h3; (try dsimp only at h1); omega))⟩⟩, by first | omega | (dsimp only; omega)⟩
          | true =>
           refine WL.lss rfl rfl rfl rfl hc36 ?_
           have hp36 := of_decide_eq_true hc36
           refine WL.move rfl rfl rfl ?_
           refine WL.pass rfl rfl ?_
           refine WL.pass rfl rfl ?_
           refine WL.pick_t rfl rfl rfl rfl ?_
           refine WL.move rfl rfl rfl ?_
           refine WL.pass rfl rfl ?_
           refine WL.pass rfl rfl ?_
           refine WL.pass rfl rfl ?_
           refine WL.pass rfl rfl ?_
           refine WL.pass rfl rfl ?_
           refine WL.pass rfl rfl ?_
           refine WL.pick_t rfl rfl rfl rfl ?_
           refine WL.dn ?_
           refine WC.cond_t rfl ?_
           refine WC.region ?_
           refine WL.assign rfl rfl rfl ?_
           refine WL.dn ?_
           refine WC.seqk ?_
           refine WC.region ?_
           refine WL.move rfl rfl rfl ?_
           refine WL.move rfl rfl rfl ?_
           refine WL.max3 (v := Nd.max3 (x11.2.1.tmod 3) (-1) 1) rfl rfl rfl rfl rfl rfl ?_
           refine WL.assign rfl rfl rfl ?_
           refine WL.dn ?_
           refine WC.seqk ?_
           refine WC.region ?_
           refine WL.move rfl rfl rfl ?_
           refine WL.move rfl rfl rfl ?_
           refine WL.mul (v := u * (Nd.max3 (x11.2.1.tmod 3) (-1) 1)) rfl rfl rfl rfl (IntWalk.i64_in _ (by have h1 := Nd.mod_bd (x := x11.2.1) (n := 3) (by omega) (by decide); have h2 := Nd.mod_bd (x := x11.2.2) (n := 4) (by omega) (by decide); have := Nd.mul_bd hb3 hb4 (Nd.max3_bd (a := x11.2.1.tmod 3) (b := -1) (by omega) (by omega)); omega)) ?_
           cases hc37 : decide (((u * (Nd.max3 (x11.2.1.tmod 3) (-1) 1)) : Int) ≤ 16) with
           | false =>
            refine WL.leq rfl rfl rfl rfl hc37 ?_
            have hp37 := of_decide_eq_false hc37
            refine WL.dn ?_
            refine WC.cond_f rfl ?_
            refine WC.sk ?_
            refine WC.region ?_
            refine WL.add (v := (k : Int) + 1) rfl rfl rfl rfl (IntWalk.i64_in _ (by omega)) ?_
            refine WL.move rfl rfl rfl ?_
            refine WL.nil (fun a_ ha => ?_)
            exact ⟨(k + 1, .slice (some ⟨eb29, 0, none⟩) pile.length capp, ⟨pile, u, gr⟩), _, ha.weaken (sr rfl (sr rfl (sr rfl (sr rfl (sr rfl (sr rfl (sr rfl (subReg_nil _)))))))), ⟨rfl, ((hB19.onto (hE7.trans hE16) (by omega)).trans hE33), ⟨by first | omega | (dsimp only; omega), by omega, (by rw [Nd.madeSt_succ hx11, ← hst]; simp only [Nd.stepM, hc10, hc21, hc22, hc23, hc24, hc25, hc26, hc27, hc30, hc36, hc37, Nd.mostM, Nd.empty, Nd.top_at ht29, Bool.or_true, Bool.true_or, Bool.or_false, Bool.false_or, cond_true, cond_false, Bool.true_and, Bool.false_and, Bool.and_true, Bool.and_false]), (h32.ext hE33), ((h31.ext hE33).dom (by intro k h1 _ _; (try dsimp only at h1); (repeat' first | (guard_hyp h1 : _ ∨ _; refine Or.elim h1 (fun h1 => ?_) (fun h1 => ?_)) | (guard_hyp h1 : _ ∧ _; have hx := h1.2; replace h1 := h1.1)) <;> first | contradiction | omega | (dsimp only; omega)))⟩⟩, by first | omega | (dsimp only; omega)⟩
           | true =>
            refine WL.leq rfl rfl rfl rfl hc37 ?_
            have hp37 := of_decide_eq_true hc37
            refine WL.dn ?_
            refine WC.cond_t rfl ?_
            refine WC.seqk ?_
            refine WC.region ?_
            refine WL.move rfl rfl rfl ?_
            refine WL.move rfl rfl rfl ?_
            refine WL.mul (v := u * (Nd.max3 (x11.2.1.tmod 3) (-1) 1)) rfl rfl rfl rfl (IntWalk.i64_in _ (by have h1 := Nd.mod_bd (x := x11.2.1) (n := 3) (by omega) (by decide); have h2 := Nd.mod_bd (x := x11.2.2) (n := 4) (by omega) (by decide); have := Nd.mul_bd hb3 hb4 (Nd.max3_bd (a := x11.2.1.tmod 3) (b := -1) (by omega) (by omega)); omega)) ?_
            refine WL.assign rfl rfl rfl ?_
            refine WL.dn ?_
            refine WC.region ?_
            refine WL.move rfl rfl rfl ?_
            refine WL.move rfl rfl rfl ?_
            refine WL.sub (v := ((pile.length - 1 : Nat) : Int)) rfl rfl rfl rfl (by rw [IntWalk.i64_in _ (by omega)]; omega) ?_
            refine WL.move rfl rfl rfl ?_
            refine WL.move rfl rfl rfl ?_
            refine WL.sub (v := ((pile.length - 1 : Nat) : Int)) rfl rfl rfl rfl (by rw [IntWalk.i64_in _ (by omega)]; omega) ?_
            refine WL.indexAddr (i := (pile.length - 1)) rfl rfl Ty.slice24 rfl rfl rfl (by omega) ?_
            refine WL.load_agg (l := tcells t29 (.slice a29 t29.subs.length cap29)) rfl rfl Ty.agg30 rfl (her29.ext hE33) ?_
            refine WL.move rfl rfl rfl ?_
            refine WL.move rfl rfl rfl ?_
            refine WL.call rfl rfl rfl Ty.ent24 (rep_ok _ _ _ t29 (x11.2.1.tmod 3) (-1) (hn29.ext hE33)) ?_
            rintro _ w40 ⟨l38, rfl, hr38, hE39⟩
            have hzhE39 := hE39.size
            refine ⟨_, rfl, ?_⟩
            have hn38 := hr38.lt
            obtain ⟨a38, cap38, rfl, hts38, hlen38⟩ := hn38.op2
            refine WL.indexAddr (i := (pile.length - 1)) rfl rfl Ty.slice24 rfl rfl rfl (by omega) ?_
            have h43 := ((h28.ext hE33).ext hE39)
            refine WL.storeV (i := (pile.length - 1)) (T := (Nd.mk 5 Nd.zero (x11.2.1.tmod 3) (-1) [t29])) rfl Ty.agg30 rfl rfl h43 (by omega) hn38 (by first | (rintro k ⟨h1, h2⟩ h3; first | omega | (dsimp only at h1; omega)) | (intro k h1 h3; (try dsimp only at h1); (repeat' first | (guard_hyp h1 : _ ∨ _; refine Or.elim h1 (fun h1 => ?_) (fun h1 => ?_)) | (guard_hyp h1 : _ ∧ _; have hx := h1.2; replace h1 := h1.1)) <;> first | contradiction | omega)) (fun w44 hB42 hM41 => ?_)
            have hzhB42 := hB42.size
            refine WL.dn ?_
            refine WC.region ?_
            refine WL.add (v := (k : Int) + 1) rfl rfl rfl rfl (IntWalk.i64_in _ (by omega)) ?_
            refine WL.move rfl rfl rfl ?_
            refine WL.nil (fun a_ ha => ?_)
            have h45 := (hB42.row ((h32.ext hE33).ext hE39) (by omega))
            exact ⟨(k + 1, .slice (some ⟨eb29, 0, none⟩) pile.length capp, ⟨(pile.set (pile.length - 1) (Nd.mk 5 Nd.zero (x11.2.1.tmod 3) (-1) [t29])), u * (Nd.max3 (x11.2.1.tmod 3) (-1) 1), gr⟩), _, ha.weaken (sr rfl (sr rfl (sr rfl (sr rfl (sr rfl (sr rfl (sr rfl (subReg_nil _)))))))), ⟨rfl, (hB42.onto (((hB19.onto (hE7.trans hE16) (by omega)).trans hE33).trans hE39) (by omega)), ⟨by first | omega | (dsimp only; omega), by omega, (by rw [Nd.madeSt_succ hx11, ← hst]; simp only [Nd.stepM, hc10, hc21, hc22, hc23, hc24, hc25, hc26, hc27, hc30, hc36, hc37, Nd.mostM, Nd.empty, Nd.top_at ht29, Bool.or_true, Bool.true_or, Bool.or_false, Bool.false_or, cond_true, cond_false, Bool.true_and, Bool.false_and, Bool.and_true, Bool.and_false]), h45, ((hM41).own (by rintro i b hi h1 h2 h3; (try dsimp only at h1); omega))⟩⟩, by first | omega | (dsimp only; omega)⟩
      | true =>
       refine WL.eql rfl rfl rfl rfl hc25 ?_
       have hp25 := beq_iff_eq.1 hc25
       refine WL.move rfl rfl rfl ?_
       refine WL.move rfl rfl rfl ?_
       cases hc26 : decide ((0 : Int) < pile.length) with
       | false =>
        refine WL.gtr rfl rfl rfl rfl hc26 ?_
        have hp26 := of_decide_eq_false hc26
        refine WL.pick_t rfl rfl rfl rfl ?_
        refine WL.move rfl rfl rfl ?_
        refine WL.pass rfl rfl ?_
        refine WL.pass rfl rfl ?_
        refine WL.pick_f rfl rfl rfl rfl ?_
        refine WL.assign rfl rfl rfl ?_
        refine WL.dn ?_
        refine WC.cond_f rfl ?_
        refine WC.seqk ?_
        refine WC.region ?_
        refine WL.move rfl rfl rfl ?_
        have hc27 : decide ((9 : Int) < (x11.1.tmod 12)) = false := decide_eq_false (by omega)
        refine WL.gtr rfl rfl rfl rfl hc27 ?_
        refine WL.move rfl rfl rfl ?_
        refine WL.pass rfl rfl ?_
        refine WL.pass rfl rfl ?_
        refine WL.pick_f rfl rfl rfl rfl ?_
        refine WL.move rfl rfl rfl ?_
        refine WL.pass rfl rfl ?_
        refine WL.pass rfl rfl ?_
        refine WL.pass rfl rfl ?_
        refine WL.pass rfl rfl ?_
        refine WL.pass rfl rfl ?_
        refine WL.pass rfl rfl ?_
        refine WL.pass rfl rfl ?_
        refine WL.pick_f rfl rfl rfl rfl ?_
        refine WL.assign rfl rfl rfl ?_
        refine WL.dn ?_
        refine WC.cond_f rfl ?_
        refine WC.sk ?_
        refine WC.region ?_
        refine WL.add (v := (k : Int) + 1) rfl rfl rfl rfl (IntWalk.i64_in _ (by omega)) ?_
        refine WL.move rfl rfl rfl ?_
        refine WL.nil (fun a_ ha => ?_)
        have h28 := ((hO.ext hE16).but hB19 (fun h1 => by first | omega | (dsimp only at h1; omega)) (fun hk => by have := (hO.ext hE16).own _ hk; have := hol _ hk; omega))
        have h29 := (hB19.row (hR2.ext hE16) (by omega))
        exact ⟨(k + 1, .slice ap pile.length capp, ⟨pile, u, gr⟩), _, ha.weaken (sr rfl (sr rfl (sr rfl (sr rfl (sr rfl (sr rfl (sr rfl (subReg_nil _)))))))), ⟨rfl, (hB19.onto (hE7.trans hE16) (by omega)), ⟨by first | omega | (dsimp only; omega), by omega, (by rw [Nd.madeSt_succ hx11, ← hst]; simp only [Nd.stepM, hc10, hc21, hc22, hc23, hc24, hc25, hc26, hc27, Nd.mostM, Nd.empty, Bool.or_true, Bool.true_or, Bool.or_false, Bool.false_or, cond_true, cond_false, Bool.true_and, Bool.false_and, Bool.and_true, Bool.and_false]), h29, (h28.dom (by intro k h1 _ _; (try dsimp only at h1); (repeat' first | (guard_hyp h1 : _ ∨ _; refine Or.elim h1 (fun h1 => ?_) (fun h1 => ?_)) | (guard_hyp h1 : _ ∧ _; have hx := h1.2; replace h1 := h1.1)) <;> first | contradiction | omega | (dsimp only; omega)))⟩⟩, by first | omega | (dsimp only; omega)⟩
       | true =>
        refine WL.gtr rfl rfl rfl rfl hc26 ?_
        have hp26 := of_decide_eq_true hc26
        refine WL.pick_t rfl rfl rfl rfl ?_
        refine WL.move rfl rfl rfl ?_
        refine WL.move rfl rfl rfl ?_
        cases hc27 : decide ((gr : Int) < 9) with
        | false =>
         refine WL.lss rfl rfl rfl rfl hc27 ?_
         have hp27 := of_decide_eq_false hc27
         refine WL.pick_t rfl rfl rfl rfl ?_
         refine WL.assign rfl rfl rfl ?_
         refine WL.dn ?_
         refine WC.cond_f rfl ?_
         refine WC.seqk ?_
         refine WC.region ?_
         refine WL.move rfl rfl rfl ?_
         have hc28 : decide ((9 : Int) < (x11.1.tmod 12)) = false := decide_eq_false (by omega)
         refine WL.gtr rfl rfl rfl rfl hc28 ?_
         refine WL.move rfl rfl rfl ?_
         refine WL.pass rfl rfl ?_
         refine WL.pass rfl rfl ?_
         refine WL.pick_f rfl rfl rfl rfl ?_
         refine WL.move rfl rfl rfl ?_
         refine WL.pass rfl rfl ?_
         refine WL.pass rfl rfl ?_
         refine WL.pass rfl rfl ?_
         refine WL.pass rfl rfl ?_
         refine WL.pass rfl rfl ?_
         refine WL.pass rfl rfl ?_
         refine WL.pass rfl rfl ?_
         refine WL.pick_f rfl rfl rfl rfl ?_
         refine WL.assign rfl rfl rfl ?_
         refine WL.dn ?_
         refine WC.cond_f rfl ?_
         refine WC.sk ?_
         refine WC.region ?_
         refine WL.add (v := (k : Int) + 1) rfl rfl rfl rfl (IntWalk.i64_in _ (by omega)) ?_
         refine WL.move rfl rfl rfl ?_
         refine WL.nil (fun a_ ha => ?_)
         have h29 := ((hO.ext hE16).but hB19 (fun h1 => by first | omega | (dsimp only at h1; omega)) (fun hk => by have := (hO.ext hE16).own _ hk; have := hol _ hk; omega))
         have h30 := (hB19.row (hR2.ext hE16) (by omega))
         exact ⟨(k + 1, .slice ap pile.length capp, ⟨pile, u, gr⟩), _, ha.weaken (sr rfl (sr rfl (sr rfl (sr rfl (sr rfl (sr rfl (sr rfl (subReg_nil _)))))))), ⟨rfl, (hB19.onto (hE7.trans hE16) (by omega)), ⟨by first | omega | (dsimp only; omega), by omega, (by rw [Nd.madeSt_succ hx11, ← hst]; simp only [Nd.stepM, hc10, hc21, hc22, hc23, hc24, hc25, hc26, hc27, hc28, Nd.mostM, Nd.empty, Bool.or_true, Bool.true_or, Bool.or_false, Bool.false_or, cond_true, cond_false, Bool.true_and, Bool.false_and, Bool.and_true, Bool.and_false]), h30, (h29.dom (by intro k h1 _ _; (try dsimp only at h1); (repeat' first | (guard_hyp h1 : _ ∨ _; refine Or.elim h1 (fun h1 => ?_) (fun h1 => ?_)) | (guard_hyp h1 : _ ∧ _; have hx := h1.2; replace h1 := h1.1)) <;> first | contradiction | omega | (dsimp only; omega)))⟩⟩, by first | omega | (dsimp only; omega)⟩
        | true =>
         refine WL.lss rfl rfl rfl rfl hc27 ?_
         have hp27 := of_decide_eq_true hc27
         refine WL.pick_t rfl rfl rfl rfl ?_
         refine WL.assign rfl rfl rfl ?_
         refine WL.dn ?_
         refine WC.cond_t rfl ?_
         refine WC.seqk ?_
         refine WC.region ?_
         refine WL.move rfl rfl rfl ?_
         refine WL.move rfl rfl rfl ?_
         refine WL.sub (v := ((pile.length - 1 : Nat) : Int)) rfl rfl rfl rfl (by rw [IntWalk.i64_in _ (by omega)]; omega) ?_
         refine WL.move rfl rfl rfl ?_
         refine WL.move rfl rfl rfl ?_
         refine WL.sub (v := ((pile.length - 1 : Nat) : Int)) rfl rfl rfl rfl (by rw [IntWalk.i64_in _ (by omega)]; omega) ?_
         have h28 := ((hM.ext hE16).but hB19 (by rintro i hi ⟨h1, h2⟩; first | omega | (dsimp only at h1; omega) | ((try dsimp only at h1); (repeat' first | (guard_hyp h1 : _ ∨ _; refine Or.elim h1 (fun h1 => ?_) (fun h1 => ?_)) | (guard_hyp h1 : _ ∧ _; have hx := h1.2; replace h1 := h1.1)) <;> first | contradiction | omega)) (fun hk => by have := (hM.ext hE16).block _ hk; have := hol _ hk; omega))
         obtain ⟨t29, ht29⟩ : ∃ t, pile[(pile.length - 1)]? = some t := ⟨_, List.getElem?_eq_getElem (by omega)⟩
         obtain ⟨eb29, el29, hea29, hgb29, hgl29, her29, hn29⟩ := h28.at ht29
         obtain ⟨a29, cap29, rfl, hts29, hlen29⟩ := hn29.op2
         subst hea29
         refine WL.indexAddr (i := (pile.length - 1)) rfl rfl Ty.slice24 rfl rfl rfl (by omega) ?_
         refine WL.load_agg (l := tcells t29 (.slice a29 t29.subs.length cap29)) rfl rfl Ty.agg30 rfl her29 ?_
         refine WL.call rfl rfl rfl Ty.ent23 (group_ok _ _ _ t29 hn29) ?_
         rintro _ w32 ⟨l30, rfl, hr30, hE31⟩
         have hzhE31 := hE31.size
         refine ⟨_, rfl, ?_⟩
         have hn30 := hr30.lt
         obtain ⟨a30, cap30, rfl, hts30, hlen30⟩ := hn30.op2
         refine WL.indexAddr (i := (pile.length - 1)) rfl rfl Ty.slice24 rfl rfl rfl (by omega) ?_
         refine WL.storeV (i := (pile.length - 1)) (T := (Nd.mk 6 Nd.zero 0 0 [t29])) rfl Ty.agg30 rfl rfl (h28.ext hE31) (by omega) hn30 (by first | (rintro k ⟨h1, h2⟩ h3; first | omega | (dsimp only at h1; omega)) | (intro k h1 h3; (try dsimp only at h1); (repeat' first | (guard_hyp h1 : _ ∨ _; refine Or.elim h1 (fun h1 => ?_) (fun h1 => ?_)) | (guard_hyp h1 : _ ∧ _; have hx := h1.2; replace h1 := h1.1)) <;> first | contradiction | omega)) (fun w35 hB34 hM33 => ?_)
         have hzhB34 := hB34.size
         refine WL.dn ?_
         refine WC.region ?_
         refine WL.move rfl rfl rfl ?_
         refine WL.add (v := gr + 1) rfl rfl rfl rfl (IntWalk.i64_in _ (by omega)) ?_
         refine WL.assign rfl rfl rfl ?_
         refine WL.dn ?_
         refine WC.region ?_
         refine WL.add (v := (k : Int) + 1) rfl rfl rfl rfl (IntWalk.i64_in _ (by omega)) ?_
         refine WL.move rfl rfl rfl ?_
         refine WL.nil (fun a_ ha => ?_)
         have h36 := (hB34.row ((hB19.row (hR2.ext hE16) (by omega)).ext hE31) (by omega))
         exact ⟨(k + 1, .slice (some ⟨eb29, 0, none⟩) pile.length capp, ⟨(pile.set (pile.length - 1) (Nd.mk 6 Nd.zero 0 0 [t29])), u, gr + 1⟩), _, ha.weaken (sr rfl (sr rfl (sr rfl (sr rfl (sr rfl (sr rfl (sr rfl (subReg_nil _)))))))), ⟨rfl, (hB34.onto ((hB19.onto (hE7.trans hE16) (by omega)).trans hE31) (by omega)), ⟨by first | omega | (dsimp only; omega), by omega, (by rw [Nd.madeSt_succ hx11, ← hst]; simp only [Nd.stepM, hc10, hc21, hc22, hc23, hc24, hc25, hc26, hc27, Nd.mostM, Nd.empty, Nd.top_at ht29, Bool.or_true, Bool.true_or, Bool.or_false, Bool.false_or, cond_true, cond_false, Bool.true_and, Bool.false_and, Bool.and_true, Bool.and_false]), h36, ((hM33).own (by rintro i b hi h1 h2 h3; (try dsimp only at h1); omega))⟩⟩, by first | omega | (dsimp only; omega)⟩
     | true =>
      refine WL.lss rfl rfl rfl rfl hc24 ?_
      have hp24 := of_decide_eq_true hc24
      refine WL.move rfl rfl rfl ?_
      refine WL.move rfl rfl rfl ?_
      cases hc25 : decide ((1 : Int) < pile.length) with
      | false =>
       refine WL.gtr rfl rfl rfl rfl hc25 ?_
       have hp25 := of_decide_eq_false hc25
       refine WL.pick_t rfl rfl rfl rfl ?_
       refine WL.assign rfl rfl rfl ?_
       refine WL.dn ?_
       refine WC.cond_f rfl ?_
       refine WC.seqk ?_
       refine WC.region ?_
       refine WL.move rfl rfl rfl ?_
       have hc26 : (((x11.1.tmod 12) : Int) == 9) = false := beq_eq_false_iff_ne.2 (by omega)
       refine WL.eql rfl rfl rfl rfl hc26 ?_
       refine WL.move rfl rfl rfl ?_
       refine WL.pass rfl rfl ?_
       refine WL.pass rfl rfl ?_
       refine WL.pick_f rfl rfl rfl rfl ?_
       refine WL.move rfl rfl rfl ?_
       refine WL.pass rfl rfl ?_
       refine WL.pass rfl rfl ?_
       refine WL.pick_f rfl rfl rfl rfl ?_
       refine WL.assign rfl rfl rfl ?_
       refine WL.dn ?_
       refine WC.cond_f rfl ?_
       refine WC.seqk ?_
       refine WC.region ?_
       refine WL.move rfl rfl rfl ?_
       have hc27 : decide ((9 : Int) < (x11.1.tmod 12)) = false := decide_eq_false (by omega)
       refine WL.gtr rfl rfl rfl rfl hc27 ?_
       refine WL.move rfl rfl rfl ?_
       refine WL.pass rfl rfl ?_
       refine WL.pass rfl rfl ?_
       refine WL.pick_f rfl rfl rfl rfl ?_
       refine WL.move rfl rfl rfl ?_
       refine WL.pass rfl rfl ?_
       refine WL.pass rfl rfl ?_
       refine WL.pass rfl rfl ?_
       refine WL.pass rfl rfl ?_
       refine WL.pass rfl rfl ?_
       refine WL.pass rfl rfl ?_
       refine WL.pass rfl rfl ?_
       refine WL.pick_f rfl rfl rfl rfl ?_
       refine WL.assign rfl rfl rfl ?_
       refine WL.dn ?_
       refine WC.cond_f rfl ?_
       refine WC.sk ?_
       refine WC.region ?_
       refine WL.add (v := (k : Int) + 1) rfl rfl rfl rfl (IntWalk.i64_in _ (by omega)) ?_
       refine WL.move rfl rfl rfl ?_
       refine WL.nil (fun a_ ha => ?_)
       have h28 := ((hO.ext hE16).but hB19 (fun h1 => by first | omega | (dsimp only at h1; omega)) (fun hk => by have := (hO.ext hE16).own _ hk; have := hol _ hk; omega))
       have h29 := (hB19.row (hR2.ext hE16) (by omega))
       exact ⟨(k + 1, .slice ap pile.length capp, ⟨pile, u, gr⟩), _, ha.weaken (sr rfl (sr rfl (sr rfl (sr rfl (sr rfl (sr rfl (sr rfl (subReg_nil _)))))))), ⟨rfl, (hB19.onto (hE7.trans hE16) (by omega)), ⟨by first | omega | (dsimp only; omega), by omega, (by rw [Nd.madeSt_succ hx11, ← hst]; simp only [Nd.stepM, hc10, hc21, hc22, hc23, hc24, hc25, hc26, hc27, Nd.mostM, Nd.empty, Bool.or_true, Bool.true_or, Bool.or_false, Bool.false_or, cond_true, cond_false, Bool.true_and, Bool.false_and, Bool.and_true, Bool.and_false]), h29, (h28.dom (by intro k h1 _ _; (try dsimp only at h1); (repeat' first | (guard_hyp h1 : _ ∨ _; refine Or.elim h1 (fun h1 => ?_) (fun h1 => ?_)) | (guard_hyp h1 : _ ∧ _; have hx := h1.2; replace h1 := h1.1)) <;> first | contradiction | omega | (dsimp only; omega)))⟩⟩, by first | omega | (dsimp only; omega)⟩
      | true =>
       refine WL.gtr rfl rfl rfl rfl hc25 ?_
       have hp25 := of_decide_eq_true hc25
       refine WL.pick_t rfl rfl rfl rfl ?_
       refine WL.assign rfl rfl rfl ?_
       refine WL.dn ?_
       refine WC.cond_t rfl ?_
       have h26 := ((hM.ext hE16).but hB19 (by rintro i hi ⟨h1, h2⟩; first | omega | (dsimp only at h1; omega) | ((try dsimp only at h1); (repeat' first | (guard_hyp h1 : _ ∨ _; refine Or.elim h1 (fun h1 => ?_) (fun h1 => ?_)) | (guard_hyp h1 : _ ∧ _; have hx := h1.2; replace h1 := h1.1)) <;> first | contradiction | omega)) (fun hk => by have := (hM.ext hE16).block _ hk; have := hol _ hk; omega))
       obtain ⟨t27, ht27⟩ : ∃ t, pile[(pile.length - 2)]? = some t := ⟨_, List.getElem?_eq_getElem (by omega)⟩
       obtain ⟨eb27, el27, hea27, hgb27, hgl27, her27, hn27⟩ := h26.at ht27
       obtain ⟨a27, cap27, rfl, hts27, hlen27⟩ := hn27.op2
       subst hea27
       obtain ⟨t28, ht28⟩ : ∃ t, pile[(pile.length - 1)]? = some t := ⟨_, List.getElem?_eq_getElem (by omega)⟩
       obtain ⟨eb28, el28, hea28, hgb28, hgl28, her28, hn28⟩ := h26.at ht28
       obtain ⟨a28, cap28, rfl, hts28, hlen28⟩ := hn28.op2
       cases hea28
       have h29 := ((hO.ext hE16).but hB19 (fun h1 => by first | omega | (dsimp only at h1; omega)) (fun hk => by have := (hO.ext hE16).own _ hk; have := hol _ hk; omega))
       have h30 := (hB19.row (hR2.ext hE16) (by omega))
       refine WC.weaken (r' := [(2, pt b1 0), (20, .slice (some ⟨eb11, eo11, none⟩) ((xs.take 25).length) cap), (21, .int .i64 ((xs.take 25).length)), (22, .int .i64 (k : Int)), (3, .slice (some ⟨eb27, 0, none⟩) pile.length capp), (4, .int .i64 u), (5, .int .i64 gr), (23, .bool true), (24, pt eb11 (eo11 + k * 3)), (25, .agg #[.int .u8 x11.1, .int .u8 x11.2.1, .int .u8 x11.2.2]), (7, pt b12 0), (26, .slice (some ⟨eb27, 0, none⟩) pile.length capp), (27, .int .i64 pile.length), (8, .int .i64 pile.length), (28, pt b12 0), (29, .int .u8 x11.1), (30, .int .u8 (x11.1.tmod 12)), (9, .int .u8 (x11.1.tmod 12)), (32, .int .u8 (x11.1.tmod 12)), (33, .bool false), (31, .bool false), (42, .int .u8 (x11.1.tmod 12)), (43, .bool false), (41, .bool false), (49, .int .u8 (x11.1.tmod 12)), (50, .bool false), (51, .bool false), (52, undef), (53, undef), (54, .bool false), (48, .bool false), (75, .int .u8 (x11.1.tmod 12)), (76, .bool true), (77, .bool true), (78, .int .i64 pile.length), (79, .bool true), (80, .bool true), (74, .bool true)]) (sr rfl (sr rfl (sr rfl (sr rfl (sr rfl (sr rfl (sr rfl (sr rfl (sr rfl (sr rfl (sr rfl (sr rfl (sr rfl (sr rfl (sr rfl (sr rfl (sr rfl (sr rfl (sr rfl (sr rfl (sr rfl (sr rfl (sr rfl (sr rfl (sr rfl (sr rfl (sr rfl (sr rfl (sr rfl (sr rfl (sr rfl (sr rfl (sr rfl (sr rfl (sr rfl (sr rfl (sr rfl (sr rfl (subReg_nil _))))))))))))))))))))))))))))))))))))))) ?_
       refine WC.draw 19 [81, 82, 83, 84, 85, 86, 87, 88, 89, 90, 91, 92, 93, 94, 95, 96, 97, 98, 99] [pc (.slice (some ⟨eb27, 0, none⟩) pile.length capp), pc (.int .i64 pile.length), pc (.int .i64 ((pile.length - 2 : Nat) : Int)), pc (.int .i64 pile.length), pc (.int .i64 ((pile.length - 2 : Nat) : Int)), pc (.slice (some ⟨eb27, 0, none⟩) (pile.length - 2) (pile.length - 2)), pc (.slice (some ⟨eb27, 0, none⟩) pile.length capp), pc (.int .i64 pile.length), pc (.int .i64 ((pile.length - 2 : Nat) : Int)), pc (pt eb27 (0 + (pile.length - 2) * 8)), pc (.agg (tcells t27 (.slice a27 t27.subs.length cap27)).toArray), pc (.slice (some ⟨eb27, 0, none⟩) pile.length capp), pc (.int .i64 pile.length), pc (.int .i64 ((pile.length - 1 : Nat) : Int)), pc (pt eb27 (0 + (pile.length - 1) * 8)), pc (.agg (tcells t28 (.slice a28 t28.subs.length cap28)).toArray), pnode (fun k => w6.heap.size ≤ k) (Nd.joins 4 t27 t28), pnodes (fun k => w6.heap.size ≤ k) ([(Nd.joins 4 t27 t28)]), pown 30 w6.heap.size (fun k => w6.heap.size ≤ k) (pile.take (pile.length - 2) ++ [(Nd.joins 4 t27 t28)])] (by kernel_rfl) (by kernel_rfl) ⟨KW_pc _, KW_pc _, KW_pc _, KW_pc _, KW_pc _, KW_pc _, KW_pc _, KW_pc _, KW_pc _, KW_pc _, KW_pc _, KW_pc _, KW_pc _, KW_pc _, KW_pc _, KW_pc _, KW_pnode _ _, KW_pnodes _ _, KW_pown _ _ _ _, trivial⟩ rfl rfl rfl (sc ?_ (sc ?_ (sc ?_ (sc ?_ (sc ?_ (sc ?_ (sc ?_ (sc ?_ (sc ?_ (sc ?_ (sc ?_ (sc ?_ (sc ?_ (sc ?_ (sc ?_ (sc ?_ (sc ?_ (sc ?_ (sc ?_ (StepsOn.nil _)))))))))))))))))))) ?_
       ·intro σ β w1 hE1 hbi hk
        have hz1 := hE1.size
        refine ⟨[], (agree_nil _), ?_⟩
        refine WL.move rfl rfl rfl ?_
        exact dq hbi rfl
       ·intro σ β w1 hE1 hbi hk
        have hz1 := hE1.size
        refine ⟨[], (agree_nil _), ?_⟩
        refine WL.move rfl rfl rfl ?_
        exact dq hbi rfl
       ·intro σ β w1 hE1 hbi hk
        have hz1 := hE1.size
        obtain ⟨_, hv51, rfl⟩ := kn hk 1 rfl rfl
        refine ⟨[(82, .int .i64 pile.length)], (ag hv51 (agree_nil _)), ?_⟩
        refine WL.sub (v := ((pile.length - 2 : Nat) : Int)) rfl rfl rfl rfl (by rw [IntWalk.i64_in _ (by omega)]; omega) ?_
        exact dq hbi rfl
       ·intro σ β w1 hE1 hbi hk
        have hz1 := hE1.size
        refine ⟨[], (agree_nil _), ?_⟩
        refine WL.move rfl rfl rfl ?_
        exact dq hbi rfl
       ·intro σ β w1 hE1 hbi hk
        have hz1 := hE1.size
        obtain ⟨_, hv51, rfl⟩ := kn hk 3 rfl rfl
        refine ⟨[(84, .int .i64 pile.length)], (ag hv51 (agree_nil _)), ?_⟩
        refine WL.sub (v := ((pile.length - 2 : Nat) : Int)) rfl rfl rfl rfl (by rw [IntWalk.i64_in _ (by omega)]; omega) ?_
        exact dq hbi rfl
       ·intro σ β w1 hE1 hbi hk
        have hz1 := hE1.size
        obtain ⟨_, hv51, rfl⟩ := kn hk 0 rfl rfl
        obtain ⟨_, hv52, rfl⟩ := kn hk 2 rfl rfl
        obtain ⟨_, hv53, rfl⟩ := kn hk 4 rfl rfl
        refine ⟨[(81, .slice (some ⟨eb27, 0, none⟩) pile.length capp), (83, .int .i64 ((pile.length - 2 : Nat) : Int)), (85, .int .i64 ((pile.length - 2 : Nat) : Int))], (ag hv51 (ag hv52 (ag hv53 (agree_nil _)))), ?_⟩
        refine WL.slice_hm (m := pile.length - 2) rfl rfl Ty.slice24 rfl rfl rfl (by omega) (by omega) (by omega) ?_
        exact dq hbi rfl
       ·intro σ β w1 hE1 hbi hk
        have hz1 := hE1.size
        refine ⟨[], (agree_nil _), ?_⟩
        refine WL.move rfl rfl rfl ?_
        exact dq hbi rfl
       ·intro σ β w1 hE1 hbi hk
        have hz1 := hE1.size
        refine ⟨[], (agree_nil _), ?_⟩
        refine WL.move rfl rfl rfl ?_
        exact dq hbi rfl
       ·intro σ β w1 hE1 hbi hk
        have hz1 := hE1.size
        obtain ⟨_, hv51, rfl⟩ := kn hk 7 rfl rfl
        refine ⟨[(88, .int .i64 pile.length)], (ag hv51 (agree_nil _)), ?_⟩
        refine WL.sub (v := ((pile.length - 2 : Nat) : Int)) rfl rfl rfl rfl (by rw [IntWalk.i64_in _ (by omega)]; omega) ?_
        exact dq hbi rfl
       ·intro σ β w1 hE1 hbi hk
        have hz1 := hE1.size
        obtain ⟨_, hv51, rfl⟩ := kn hk 6 rfl rfl
        obtain ⟨_, hv52, rfl⟩ := kn hk 8 rfl rfl
        refine ⟨[(87, .slice (some ⟨eb27, 0, none⟩) pile.length capp), (89, .int .i64 ((pile.length - 2 : Nat) : Int))], (ag hv51 (ag hv52 (agree_nil _))), ?_⟩
        refine WL.indexAddr (i := (pile.length - 2)) rfl rfl Ty.slice24 rfl rfl rfl (by omega) ?_
        exact dq hbi rfl
       ·intro σ β w1 hE1 hbi hk
        have hz1 := hE1.size
        obtain ⟨_, hv51, rfl⟩ := kn hk 9 rfl rfl
        refine ⟨[(90, pt eb27 (0 + (pile.length - 2) * 8))], (ag hv51 (agree_nil _)), ?_⟩
        refine WL.load_agg (l := tcells t27 (.slice a27 t27.subs.length cap27)) rfl rfl Ty.agg30 rfl (her27.ext hE1) ?_
        exact dq hbi rfl
       ·intro σ β w1 hE1 hbi hk
        have hz1 := hE1.size
        refine ⟨[], (agree_nil _), ?_⟩
        refine WL.move rfl rfl rfl ?_
        exact dq hbi rfl
       ·intro σ β w1 hE1 hbi hk
        have hz1 := hE1.size
        refine ⟨[], (agree_nil _), ?_⟩
        refine WL.move rfl rfl rfl ?_
        exact dq hbi rfl
       ·intro σ β w1 hE1 hbi hk
        have hz1 := hE1.size
        obtain ⟨_, hv51, rfl⟩ := kn hk 12 rfl rfl
        refine ⟨[(93, .int .i64 pile.length)], (ag hv51 (agree_nil _)), ?_⟩
        refine WL.sub (v := ((pile.length - 1 : Nat) : Int)) rfl rfl rfl rfl (by rw [IntWalk.i64_in _ (by omega)]; omega) ?_
        exact dq hbi rfl
       ·intro σ β w1 hE1 hbi hk
        have hz1 := hE1.size
        obtain ⟨_, hv51, rfl⟩ := kn hk 11 rfl rfl
        obtain ⟨_, hv52, rfl⟩ := kn hk 13 rfl rfl
        refine ⟨[(92, .slice (some ⟨eb27, 0, none⟩) pile.length capp), (94, .int .i64 ((pile.length - 1 : Nat) : Int))], (ag hv51 (ag hv52 (agree_nil _))), ?_⟩
        refine WL.indexAddr (i := (pile.length - 1)) rfl rfl Ty.slice24 rfl rfl rfl (by omega) ?_
        exact dq hbi rfl
       ·intro σ β w1 hE1 hbi hk
        have hz1 := hE1.size
        obtain ⟨_, hv51, rfl⟩ := kn hk 14 rfl rfl
        refine ⟨[(95, pt eb27 (0 + (pile.length - 1) * 8))], (ag hv51 (agree_nil _)), ?_⟩
        refine WL.load_agg (l := tcells t28 (.slice a28 t28.subs.length cap28)) rfl rfl Ty.agg30 rfl (her28.ext hE1) ?_
        exact dq hbi rfl
       ·intro σ β w1 hE1 hbi hk
        have hz1 := hE1.size
        obtain ⟨_, hv51, rfl⟩ := kn hk 10 rfl rfl
        obtain ⟨_, hv52, rfl⟩ := kn hk 15 rfl rfl
        refine ⟨[(91, .agg (tcells t27 (.slice a27 t27.subs.length cap27)).toArray), (96, .agg (tcells t28 (.slice a28 t28.subs.length cap28)).toArray)], (ag hv51 (ag hv52 (agree_nil _))), ?_⟩
        refine WL.call rfl rfl rfl Ty.ent22 (joins_ok _ _ _ 4 _ _ t27 t28 (hn27.ext hE1) (hn28.ext hE1) (by have h1 := Nd.size_le_sizeL (List.mem_of_getElem? ht27); omega) (by have h1 := Nd.size_le_sizeL (List.mem_of_getElem? ht28); omega)) ?_
        rintro _ w55 ⟨l53, rfl, hr53, hE54⟩
        have hzhE54 := hE54.size
        refine ⟨_, rfl, ?_⟩
        have hn53 := hr53.lt
        obtain ⟨a53, cap53, rfl, hts53, hlen53⟩ := hn53.op2
        exact dqE hbi hE54 ⟨_, rfl, (hr53.lt.dom (by intro k h1; refine ⟨(by replace h1 := h1.1; (try dsimp only at h1); (repeat' first | (guard_hyp h1 : _ ∨ _; refine Or.elim h1 (fun h1 => ?_) (fun h1 => ?_)) | (guard_hyp h1 : _ ∧ _; have hx := h1.2; replace h1 := h1.1)) <;> first | contradiction | omega), ?_, h1.2⟩; replace h1 := h1.1; intro x hxm; have hi := hbi.hi x hxm; have lo := hbi.lo x hxm; (try dsimp only at h1); (repeat' first | (guard_hyp h1 : _ ∨ _; refine Or.elim h1 (fun h1 => ?_) (fun h1 => ?_)) | (guard_hyp h1 : _ ∧ _; have hx := h1.2; replace h1 := h1.1)) <;> first | contradiction | omega | exact hx.1 x hxm))⟩
       ·intro σ β w1 hE1 hbi hk
        have hz1 := hE1.size
        obtain ⟨_, hv51, l51, rfl, hn51⟩ := kn hk 16 rfl rfl
        have hn51 := hn51.lt
        obtain ⟨a51, cap51, rfl, hts51, hlen51⟩ := hn51.op2
        refine ⟨[(97, .agg (tcells (Nd.joins 4 t27 t28) (.slice a51 (Nd.joins 4 t27 t28).subs.length cap51)).toArray)], (ag hv51 (agree_nil _)), ?_⟩
        refine WL.buildSlice (vs := [.agg (tcells (Nd.joins 4 t27 t28) (.slice a51 (Nd.joins 4 t27 t28).subs.length cap51)).toArray]) (cells := (tcells (Nd.joins 4 t27 t28) (.slice a51 (Nd.joins 4 t27 t28).subs.length cap51))) rfl rfl Ty.slice24 Ty.zero30 rfl rfl rfl rfl rfl rfl (fun b52 w57 hb53 hE56 hs54 hR55 => ?_)
        have hts52 := (NodesV.lit (n := 1) (ts := [(Nd.joins 4 t27 t28)]) hR55 (RowsL.cons (hn51.ext hE56) (RowsL.nil' _)) rfl rfl (by decide)).lt
        exact dqE hbi hE56 ⟨_, _, rfl, (hts52.dom (by intro k h1; refine ⟨(by replace h1 := h1.1; (try dsimp only at h1); (repeat' first | (guard_hyp h1 : _ ∨ _; refine Or.elim h1 (fun h1 => ?_) (fun h1 => ?_)) | (guard_hyp h1 : _ ∧ _; have hx := h1.2; replace h1 := h1.1)) <;> first | contradiction | omega), ?_, h1.2⟩; replace h1 := h1.1; intro x hxm; have hi := hbi.hi x hxm; have lo := hbi.lo x hxm; (try dsimp only at h1); (repeat' first | (guard_hyp h1 : _ ∨ _; refine Or.elim h1 (fun h1 => ?_) (fun h1 => ?_)) | (guard_hyp h1 : _ ∧ _; have hx := h1.2; replace h1 := h1.1)) <;> first | contradiction | omega | exact hx.1 x hxm))⟩
       ·intro σ β w1 hE1 hbi hk
        have hz1 := hE1.size
        obtain ⟨_, hv51, rfl⟩ := kn hk 5 rfl rfl
        obtain ⟨_, hv52, a52, cap52, rfl, hts52⟩ := kn hk 17 rfl rfl
        have hts52 := hts52.lt
        have hlen52 := hts52.len
        refine ⟨[(86, .slice (some ⟨eb27, 0, none⟩) (pile.length - 2) (pile.length - 2)), (98, .slice a52 (([(Nd.joins 4 t27 t28)]).length) cap52)], (ag hv51 (ag hv52 (agree_nil _))), ?_⟩
        have h54 := (((hts.ext hE16).bu hB19).ext hE1)
        refine WL.appendFull rfl rfl Ty.slice24 Ty.zero30 rfl small_node rfl rfl ((h54).take (by omega) (Nat.le_refl _)) hts52 (by simp) (fun h => by rw [(hnn h).1]; rfl) (by simp; omega) ?_
        intro v53 w53 hO53 hE53
        have hz53 := hE53.size
        exact dqE hbi hE53 ((hO53.rebase (by omega)).dom (by intro k h1 _ _; (try dsimp only at h1); (repeat' first | (guard_hyp h1 : _ ∨ _; refine Or.elim h1 (fun h1 => ?_) (fun h1 => ?_)) | (guard_hyp h1 : _ ∧ _; have hx := h1.2; replace h1 := h1.1)) <;> first | contradiction | omega | (dsimp only; omega)))
       intro σ β w31 hE31 hbi31 hk
       have hz31 := hE31.size
       have hbi := hbi31
       obtain ⟨v32, hv32, hO32⟩ := hk 18 (by decide) _ _ rfl rfl
       refine WL.know [(99, v32)] (ag hv32 (agree_nil _)) ?_
       refine WL.assign rfl rfl rfl ?_
       refine WL.dn ?_
       refine WC.region ?_
       refine WL.add (v := (k : Int) + 1) rfl rfl rfl rfl (IntWalk.i64_in _ (by omega)) ?_
       refine WL.move rfl rfl rfl ?_
       refine WL.nil (fun a_ ha => ?_)
       exact ⟨(k + 1, v32, ⟨(pile.take (pile.length - 2) ++ [(Nd.joins 4 t27 t28)]), u, gr⟩), _, ha.weaken (sr rfl (sr rfl (sr rfl (sr rfl (sr rfl (sr rfl (sr rfl (subReg_nil _)))))))), ⟨rfl, ((hB19.onto (hE7.trans hE16) (by omega)).trans hE31), ⟨by first | omega | (dsimp only; omega), by omega, (by rw [Nd.madeSt_succ hx11, ← hst]; simp only [Nd.stepM, hc10, hc21, hc22, hc23, hc24, hc25, Nd.mostM, Nd.empty, Nd.top2_at ht27, Nd.top_at ht28, Bool.or_true, Bool.true_or, Bool.or_false, Bool.false_or, cond_true, cond_false, Bool.true_and, Bool.false_and, Bool.and_true, Bool.and_false]), (h30.ext hE31), (hO32.dom (by intro k h1 _ _; (try dsimp only at h1); (repeat' first | (guard_hyp h1 : _ ∨ _; refine Or.elim h1 (fun h1 => ?_) (fun h1 => ?_)) | (guard_hyp h1 : _ ∧ _; have hx := h1.2; replace h1 := h1.1)) <;> first | contradiction | omega | (dsimp only; omega)))⟩⟩, by first | omega | (dsimp only; omega)⟩
    | true =>
     refine WL.lss rfl rfl rfl rfl hc23 ?_
     have hp23 := of_decide_eq_true hc23
     refine WL.move rfl rfl rfl ?_
     refine WL.move rfl rfl rfl ?_
     cases hc24 : decide ((1 : Int) < pile.length) with
     | false =>
      refine WL.gtr rfl rfl rfl rfl hc24 ?_
      have hp24 := of_decide_eq_false hc24
      refine WL.pick_t rfl rfl rfl rfl ?_
      refine WL.assign rfl rfl rfl ?_
      refine WL.dn ?_
      refine WC.cond_f rfl ?_
      refine WC.seqk ?_
      refine WC.region ?_
      refine WL.move rfl rfl rfl ?_
      have hc25 : decide (((x11.1.tmod 12) : Int) < 9) = true := decide_eq_true (by omega)
      refine WL.lss rfl rfl rfl rfl hc25 ?_
      refine WL.move rfl rfl rfl ?_
      refine WL.move rfl rfl rfl ?_
      refine WL.gtr (b := false) rfl rfl rfl rfl hc24 ?_
      refine WL.pick_t rfl rfl rfl rfl ?_
      refine WL.assign rfl rfl rfl ?_
      refine WL.dn ?_
      refine WC.cond_f rfl ?_
      refine WC.seqk ?_
      refine WC.region ?_
      refine WL.move rfl rfl rfl ?_
      have hc26 : (((x11.1.tmod 12) : Int) == 9) = false := beq_eq_false_iff_ne.2 (by omega)
      refine WL.eql rfl rfl rfl rfl hc26 ?_
      refine WL.move rfl rfl rfl ?_
      refine WL.pass rfl rfl ?_
      refine WL.pass rfl rfl ?_
      refine WL.pick_f rfl rfl rfl rfl ?_
      refine WL.move rfl rfl rfl ?_
      refine WL.pass rfl rfl ?_
      refine WL.pass rfl rfl ?_
      refine WL.pick_f rfl rfl rfl rfl ?_
      refine WL.assign rfl rfl rfl ?_
      refine WL.dn ?_
      refine WC.cond_f rfl ?_
      refine WC.seqk ?_
      refine WC.region ?_
      refine WL.move rfl rfl rfl ?_
      have hc27 : decide ((9 : Int) < (x11.1.tmod 12)) = false := decide_eq_false (by omega)
      refine WL.gtr rfl rfl rfl rfl hc27 ?_
      refine WL.move rfl rfl rfl ?_
      refine WL.pass rfl rfl ?_
      refine WL.pass rfl rfl ?_
      refine WL.pick_f rfl rfl rfl rfl ?_
      refine WL.move rfl rfl rfl ?_
      refine WL.pass rfl rfl ?_
      refine WL.pass rfl rfl ?_
      refine WL.pass rfl rfl ?_
      refine WL.pass rfl rfl ?_
      refine WL.pass rfl rfl ?_
      refine WL.pass rfl rfl ?_
      refine WL.pass rfl rfl ?_
      refine WL.pick_f rfl rfl rfl rfl ?_
      refine WL.assign rfl rfl rfl ?_
      refine WL.dn ?_
      refine WC.cond_f rfl ?_
      refine WC.sk ?_
      refine WC.region ?_
      refine WL.add (v := (k : Int) + 1) rfl rfl rfl rfl (IntWalk.i64_in _ (by omega)) ?_
      refine WL.move rfl rfl rfl ?_
      refine WL.nil (fun a_ ha => ?_)
      have h28 := ((hO.ext hE16).but hB19 (fun h1 => by first | omega | (dsimp only at h1; omega)) (fun hk => by have := (hO.ext hE16).own _ hk; have := hol _ hk; omega))
      have h29 := (hB19.row (hR2.ext hE16) (by omega))
      exact ⟨(k + 1, .slice ap pile.length capp, ⟨pile, u, gr⟩), _, ha.weaken (sr rfl (sr rfl (sr rfl (sr rfl (sr rfl (sr rfl (sr rfl (subReg_nil _)))))))), ⟨rfl, (hB19.onto (hE7.trans hE16) (by omega)), ⟨by first | omega | (dsimp only; omega), by omega, (by rw [Nd.madeSt_succ hx11, ← hst]; simp only [Nd.stepM, hc10, hc21, hc22, hc23, hc24, hc25, hc26, hc27, Nd.mostM, Nd.empty, Bool.or_true, Bool.true_or, Bool.or_false, Bool.false_or, cond_true, cond_false, Bool.true_and, Bool.false_and, Bool.and_true, Bool.and_false]), h29, (h28.dom (by intro k h1 _ _; (try dsimp only at h1); (repeat' first | (guard_hyp h1 : _ ∨ _; refine Or.elim h1 (fun h1 => ?_) (fun h1 => ?_)) | (guard_hyp h1 : _ ∧ _; have hx := h1.2; replace h1 := h1.1)) <;> first | contradiction | omega | (dsimp only; omega)))⟩⟩, by first | omega | (dsimp only; omega)⟩
     | true =>
      refine WL.gtr rfl rfl rfl rfl hc24 ?_
      have hp24 := of_decide_eq_true hc24
      refine WL.pick_t rfl rfl rfl rfl ?_
      refine WL.assign rfl rfl rfl ?_
      refine WL.dn ?_
      refine WC.cond_t rfl ?_
      have h25 := ((hM.ext hE16).but hB19 (by rintro i hi ⟨h1, h2⟩; first | omega | (dsimp only at h1; omega) | ((try dsimp only at h1); (repeat' first | (guard_hyp h1 : _ ∨ _; refine Or.elim h1 (fun h1 => ?_) (fun h1 => ?_)) | (guard_hyp h1 : _ ∧ _; have hx := h1.2; replace h1 := h1.1)) <;> first | contradiction | omega)) (fun hk => by have := (hM.ext hE16).block _ hk; have := hol _ hk; omega))
      obtain ⟨t26, ht26⟩ : ∃ t, pile[(pile.length - 2)]? = some t := ⟨_, List.getElem?_eq_getElem (by omega)⟩
      obtain ⟨eb26, el26, hea26, hgb26, hgl26, her26, hn26⟩ := h25.at ht26
      obtain ⟨a26, cap26, rfl, hts26, hlen26⟩ := hn26.op2
      subst hea26
      obtain ⟨t27, ht27⟩ : ∃ t, pile[(pile.length - 1)]? = some t := ⟨_, List.getElem?_eq_getElem (by omega)⟩
      obtain ⟨eb27, el27, hea27, hgb27, hgl27, her27, hn27⟩ := h25.at ht27
      obtain ⟨a27, cap27, rfl, hts27, hlen27⟩ := hn27.op2
      cases hea27
      have h28 := ((hO.ext hE16).but hB19 (fun h1 => by first | omega | (dsimp only at h1; omega)) (fun hk => by have := (hO.ext hE16).own _ hk; have := hol _ hk; omega))
      have h29 := (hB19.row (hR2.ext hE16) (by omega))
      refine WC.weaken (r' := [(2, pt b1 0), (20, .slice (some ⟨eb11, eo11, none⟩) ((xs.take 25).length) cap), (21, .int .i64 ((xs.take 25).length)), (22, .int .i64 (k : Int)), (3, .slice (some ⟨eb26, 0, none⟩) pile.length capp), (4, .int .i64 u), (5, .int .i64 gr), (23, .bool true), (24, pt eb11 (eo11 + k * 3)), (25, .agg #[.int .u8 x11.1, .int .u8 x11.2.1, .int .u8 x11.2.2]), (7, pt b12 0), (26, .slice (some ⟨eb26, 0, none⟩) pile.length capp), (27, .int .i64 pile.length), (8, .int .i64 pile.length), (28, pt b12 0), (29, .int .u8 x11.1), (30, .int .u8 (x11.1.tmod 12)), (9, .int .u8 (x11.1.tmod 12)), (32, .int .u8 (x11.1.tmod 12)), (33, .bool false), (31, .bool false), (42, .int .u8 (x11.1.tmod 12)), (43, .bool false), (41, .bool false), (49, .int .u8 (x11.1.tmod 12)), (50, .bool true), (51, .bool true), (52, .int .i64 pile.length), (53, .bool true), (54, .bool true), (48, .bool true)]) (sr rfl (sr rfl (sr rfl (sr rfl (sr rfl (sr rfl (sr rfl (sr rfl (sr rfl (sr rfl (sr rfl (sr rfl (sr rfl (sr rfl (sr rfl (sr rfl (sr rfl (sr rfl (sr rfl (sr rfl (sr rfl (sr rfl (sr rfl (sr rfl (sr rfl (sr rfl (sr rfl (sr rfl (sr rfl (sr rfl (sr rfl (subReg_nil _)))))))))))))))))))))))))))))))) ?_
      refine WC.draw 19 [55, 56, 57, 58, 59, 60, 61, 62, 63, 64, 65, 66, 67, 68, 69, 70, 71, 72, 73] [pc (.slice (some ⟨eb26, 0, none⟩) pile.length capp), pc (.int .i64 pile.length), pc (.int .i64 ((pile.length - 2 : Nat) : Int)), pc (.int .i64 pile.length), pc (.int .i64 ((pile.length - 2 : Nat) : Int)), pc (.slice (some ⟨eb26, 0, none⟩) (pile.length - 2) (pile.length - 2)), pc (.slice (some ⟨eb26, 0, none⟩) pile.length capp), pc (.int .i64 pile.length), pc (.int .i64 ((pile.length - 2 : Nat) : Int)), pc (pt eb26 (0 + (pile.length - 2) * 8)), pc (.agg (tcells t26 (.slice a26 t26.subs.length cap26)).toArray), pc (.slice (some ⟨eb26, 0, none⟩) pile.length capp), pc (.int .i64 pile.length), pc (.int .i64 ((pile.length - 1 : Nat) : Int)), pc (pt eb26 (0 + (pile.length - 1) * 8)), pc (.agg (tcells t27 (.slice a27 t27.subs.length cap27)).toArray), pnode (fun k => w6.heap.size ≤ k) (Nd.joins 3 t26 t27), pnodes (fun k => w6.heap.size ≤ k) ([(Nd.joins 3 t26 t27)]), pown 30 w6.heap.size (fun k => w6.heap.size ≤ k) (pile.take (pile.length - 2) ++ [(Nd.joins 3 t26 t27)])] (by kernel_rfl) (by kernel_rfl) ⟨KW_pc _, KW_pc _, KW_pc _, KW_pc _, KW_pc _, KW_pc _, KW_pc _, KW_pc _, KW_pc _, KW_pc _, KW_pc _, KW_pc _, KW_pc _, KW_pc _, KW_pc _, KW_pc _, KW_pnode _ _, KW_pnodes _ _, KW_pown _ _ _ _, trivial⟩ rfl rfl rfl (sc ?_ (sc ?_ (sc ?_ (sc ?_ (sc ?_ (sc ?_ (sc ?_ (sc ?_ (sc ?_ (sc ?_ (sc ?_ (sc ?_ (sc ?_ (sc ?_ (sc ?_ (sc ?_ (sc ?_ (sc ?_ (sc ?_ (StepsOn.nil _)))))))))))))))))))) ?_
      ·intro σ β w1 hE1 hbi hk
       have hz1 := hE1.size
       refine ⟨[], (agree_nil _), ?_⟩
       refine WL.move rfl rfl rfl ?_
       exact dq hbi rfl
      ·intro σ β w1 hE1 hbi hk
       have hz1 := hE1.size
       refine ⟨[], (agree_nil _), ?_⟩
       refine WL.move rfl rfl rfl ?_
       exact dq hbi rfl
      ·intro σ β w1 hE1 hbi hk
       have hz1 := hE1.size
       obtain ⟨_, hv50, rfl⟩ := kn hk 1 rfl rfl
       refine ⟨[(56, .int .i64 pile.length)], (ag hv50 (agree_nil _)), ?_⟩
       refine WL.sub (v := ((pile.length - 2 : Nat) : Int)) rfl rfl rfl rfl (by rw [IntWalk.i64_in _ (by omega)]; omega) ?_
       exact dq hbi rfl
      ·intro σ β w1 hE1 hbi hk
       have hz1 := hE1.size
       refine ⟨[], (agree_nil _), ?_⟩
       refine WL.move rfl rfl rfl ?_
       exact dq hbi rfl
      ·intro σ β w1 hE1 hbi hk
       have hz1 := hE1.size
       obtain ⟨_, hv50, rfl⟩ := kn hk 3 rfl rfl
       refine ⟨[(58, .int .i64 pile.length)], (ag hv50 (agree_nil _)), ?_⟩
       refine WL.sub (v := ((pile.length - 2 : Nat) : Int)) rfl rfl rfl rfl (by rw [IntWalk.i64_in _ (by omega)]; omega) ?_
       exact dq hbi rfl
      ·intro σ β w1 hE1 hbi hk
       have hz1 := hE1.size
       obtain ⟨_, hv50, rfl⟩ := kn hk 0 rfl rfl
       obtain ⟨_, hv51, rfl⟩ := kn hk 2 rfl rfl
       obtain ⟨_, hv52, rfl⟩ := kn hk 4 rfl rfl
       refine ⟨[(55, .slice (some ⟨eb26, 0, none⟩) pile.length capp), (57, .int .i64 ((pile.length - 2 : Nat) : Int)), (59, .int .i64 ((pile.length - 2 : Nat) : Int))], (ag hv50 (ag hv51 (ag hv52 (agree_nil _)))), ?_⟩
       refine WL.slice_hm (m := pile.length - 2) rfl rfl Ty.slice24 rfl rfl rfl (by omega) (by omega) (by omega) ?_
       exact dq hbi rfl
      ·intro σ β w1 hE1 hbi hk
       have hz1 := hE1.size
       refine ⟨[], (agree_nil _), ?_⟩
       refine WL.move rfl rfl rfl ?_
       exact dq hbi rfl
      ·intro σ β w1 hE1 hbi hk
       have hz1 := hE1.size
       refine ⟨[], (agree_nil _), ?_⟩
       refine WL.move rfl rfl rfl ?_
       exact dq hbi rfl
      ·intro σ β w1 hE1 hbi hk
       have hz1 := hE1.size
       obtain ⟨_, hv50, rfl⟩ := kn hk 7 rfl rfl
       refine ⟨[(62, .int .i64 pile.length)], (ag hv50 (agree_nil _)), ?_⟩
       refine WL.sub (v := ((pile.length - 2 : Nat) : Int)) rfl rfl rfl rfl (by rw [IntWalk.i64_in _ (by omega)]; omega) ?_
       exact dq hbi rfl
      ·intro σ β w1 hE1 hbi hk
       have hz1 := hE1.size
       obtain ⟨_, hv50, rfl⟩ := kn hk 6 rfl rfl
       obtain ⟨_, hv51, rfl⟩ := kn hk 8 rfl rfl
       refine ⟨[(61, .slice (some ⟨eb26, 0, none⟩) pile.length capp), (63, .int .i64 ((pile.length - 2 : Nat) : Int))], (ag hv50 (ag hv51 (agree_nil _))), ?_⟩
       refine WL.indexAddr (i := (pile.length - 2)) rfl rfl Ty.slice24 rfl rfl rfl (by omega) ?_
       exact dq hbi rfl
      ·intro σ β w1 hE1 hbi hk
       have hz1 := hE1.size
       obtain ⟨_, hv50, rfl⟩ := kn hk 9 rfl rfl
       refine ⟨[(64, pt eb26 (0 + (pile.length - 2) * 8))], (ag hv50 (agree_nil _)), ?_⟩
       refine WL.load_agg (l := tcells t26 (.slice a26 t26.subs.length cap26)) rfl rfl Ty.agg30 rfl (her26.ext hE1) ?_
       exact dq hbi rfl
      ·intro σ β w1 hE1 hbi hk
       have hz1 := hE1.size
       refine ⟨[], (agree_nil _), ?_⟩
       refine WL.move rfl rfl rfl ?_
       exact dq hbi rfl
      ·intro σ β w1 hE1 hbi hk
       have hz1 := hE1.size
       refine ⟨[], (agree_nil _), ?_⟩
       refine WL.move rfl rfl rfl ?_
       exact dq hbi rfl
      ·intro σ β w1 hE1 hbi hk
       have hz1 := hE1.size
       obtain ⟨_, hv50, rfl⟩ := kn hk 12 rfl rfl
       refine ⟨[(67, .int .i64 pile.length)], (ag hv50 (agree_nil _)), ?_⟩
       refine WL.sub (v := ((pile.length - 1 : Nat) : Int)) rfl rfl rfl rfl (by rw [IntWalk.i64_in _ (by omega)]; omega) ?_
       exact dq hbi rfl
      ·intro σ β w1 hE1 hbi hk
       have hz1 := hE1.size
       obtain ⟨_, hv50, rfl⟩ := kn hk 11 rfl rfl
       obtain ⟨_, hv51, rfl⟩ := kn hk 13 rfl rfl
       refine ⟨[(66, .slice (some ⟨eb26, 0, none⟩) pile.length capp), (68, .int .i64 ((pile.length - 1 : Nat) : Int))], (ag hv50 (ag hv51 (agree_nil _))), ?_⟩
       refine WL.indexAddr (i := (pile.length - 1)) rfl rfl Ty.slice24 rfl rfl rfl (by omega) ?_
       exact dq hbi rfl
      ·intro σ β w1 hE1 hbi hk
       have hz1 := hE1.size
       obtain ⟨_, hv50, rfl⟩ := kn hk 14 rfl rfl
       refine ⟨[(69, pt eb26 (0 + (pile.length - 1) * 8))], (ag hv50 (agree_nil _)), ?_⟩
       refine WL.load_agg (l := tcells t27 (.slice a27 t27.subs.length cap27)) rfl rfl Ty.agg30 rfl (her27.ext hE1) ?_
       exact dq hbi rfl
      ·intro σ β w1 hE1 hbi hk
       have hz1 := hE1.size
       obtain ⟨_, hv50, rfl⟩ := kn hk 10 rfl rfl
       obtain ⟨_, hv51, rfl⟩ := kn hk 15 rfl rfl
       refine ⟨[(65, .agg (tcells t26 (.slice a26 t26.subs.length cap26)).toArray), (70, .agg (tcells t27 (.slice a27 t27.subs.length cap27)).toArray)], (ag hv50 (ag hv51 (agree_nil _))), ?_⟩
       refine WL.call rfl rfl rfl Ty.ent22 (joins_ok _ _ _ 3 _ _ t26 t27 (hn26.ext hE1) (hn27.ext hE1) (by have h1 := Nd.size_le_sizeL (List.mem_of_getElem? ht26); omega) (by have h1 := Nd.size_le_sizeL (List.mem_of_getElem? ht27); omega)) ?_
       rintro _ w54 ⟨l52, rfl, hr52, hE53⟩
       have hzhE53 := hE53.size
       refine ⟨_, rfl, ?_⟩
       have hn52 := hr52.lt
       obtain ⟨a52, cap52, rfl, hts52, hlen52⟩ := hn52.op2
       exact dqE hbi hE53 ⟨_, rfl, (hr52.lt.dom (by intro k h1; refine ⟨(by replace h1 := h1.1; (try dsimp only at h1); (repeat' first | (guard_hyp h1 : _ ∨ _; refine Or.elim h1 (fun h1 => ?_) (fun h1 => ?_)) | (guard_hyp h1 : _ ∧ _; have hx := h1.2; replace h1 := h1.1)) <;> first | contradiction | omega), ?_, h1.2⟩; replace h1 := h1.1; intro x hxm; have hi := hbi.hi x hxm; have lo := hbi.lo x hxm; (try dsimp only at h1); (repeat' first | (guard_hyp h1 : _ ∨ _; refine Or.elim h1 (fun h1 => ?_) (fun h1 => ?_)) | (guard_hyp h1 : _ ∧ _; have hx := h1.2; replace h1 := h1.1)) <;> first | contradiction | omega | exact hx.1 x hxm))⟩
      ·intro σ β w1 hE1 hbi hk
       have hz1 := hE1.size
       obtain ⟨_, hv50, l50, rfl, hn50⟩ := kn hk 16 rfl rfl
       have hn50 := hn50.lt
       obtain ⟨a50, cap50, rfl, hts50, hlen50⟩ := hn50.op2
       refine ⟨[(71, .agg (tcells (Nd.joins 3 t26 t27) (.slice a50 (Nd.joins 3 t26 t27).subs.length cap50)).toArray)], (ag hv50 (agree_nil _)), ?_⟩
       refine WL.buildSlice (vs := [.agg (tcells (Nd.joins 3 t26 t27) (.slice a50 (Nd.joins 3 t26 t27).subs.length cap50)).toArray]) (cells := (tcells (Nd.joins 3 t26 t27) (.slice a50 (Nd.joins 3 t26 t27).subs.length cap50))) rfl rfl Ty.slice24 Ty.zero30 rfl rfl rfl rfl rfl rfl (fun b51 w56 hb52 hE55 hs53 hR54 => ?_)
       have hts51 := (NodesV.lit (n := 1) (ts := [(Nd.joins 3 t26 t27)]) hR54 (RowsL.cons (hn50.ext hE55) (RowsL.nil' _)) rfl rfl (by decide)).lt
       exact dqE hbi hE55 ⟨_, _, rfl, (hts51.dom (by intro k h1; refine ⟨(by replace h1 := h1.1; (try dsimp only at h1); (repeat' first | (guard_hyp h1 : _ ∨ _; refine Or.elim h1 (fun h1 => ?_) (fun h1 => ?_)) | (guard_hyp h1 : _ ∧ _; have hx := h1.2; replace h1 := h1.1)) <;> first | contradiction | omega), ?_, h1.2⟩; replace h1 := h1.1; intro x hxm; have hi := hbi.hi x hxm; have lo := hbi.lo x hxm; (try dsimp only at h1); (repeat' first | (guard_hyp h1 : _ ∨ _; refine Or.elim h1 (fun h1 => ?_) (fun h1 => ?_)) | (guard_hyp h1 : _ ∧ _; have hx := h1.2; replace h1 := h1.1)) <;> first | contradiction | omega | exact hx.1 x hxm))⟩
      ·intro σ β w1 hE1 hbi hk
       have hz1 := hE1.size
       obtain ⟨_, hv50, rfl⟩ := kn hk 5 rfl rfl
       obtain ⟨_, hv51, a51, cap51, rfl, hts51⟩ := kn hk 17 rfl rfl
       have hts51 := hts51.lt
       have hlen51 := hts51.len
       refine ⟨[(60, .slice (some ⟨eb26, 0, none⟩) (pile.length - 2) (pile.length - 2)), (72, .slice a51 (([(Nd.joins 3 t26 t27)]).length) cap51)], (ag hv50 (ag hv51 (agree_nil _))), ?_⟩
       have h53 := (((hts.ext hE16).bu hB19).ext hE1)
       refine WL.appendFull rfl rfl Ty.slice24 Ty.zero30 rfl small_node rfl rfl ((h53).take (by omega) (Nat.le_refl _)) hts51 (by simp) (fun h => by rw [(hnn h).1]; rfl) (by simp; omega) ?_
       intro v52 w52 hO52 hE52
       have hz52 := hE52.size
       exact dqE hbi hE52 ((hO52.rebase (by omega)).dom (by intro k h1 _ _; (try dsimp only at h1); (repeat' first | (guard_hyp h1 : _ ∨ _; refine Or.elim h1 (fun h1 => ?_) (fun h1 => ?_)) | (guard_hyp h1 : _ ∧ _; have hx := h1.2; replace h1 := h1.1)) <;> first | contradiction | omega | (dsimp only; omega)))
      intro σ β w30 hE30 hbi30 hk
      have hz30 := hE30.size
      have hbi := hbi30
      obtain ⟨v31, hv31, hO31⟩ := hk 18 (by decide) _ _ rfl rfl
      refine WL.know [(73, v31)] (ag hv31 (agree_nil _)) ?_
      refine WL.assign rfl rfl rfl ?_
      refine WL.dn ?_
      refine WC.region ?_
      refine WL.add (v := (k : Int) + 1) rfl rfl rfl rfl (IntWalk.i64_in _ (by omega)) ?_
      refine WL.move rfl rfl rfl ?_
      refine WL.nil (fun a_ ha => ?_)
      exact ⟨(k + 1, v31, ⟨(pile.take (pile.length - 2) ++ [(Nd.joins 3 t26 t27)]), u, gr⟩), _, ha.weaken (sr rfl (sr rfl (sr rfl (sr rfl (sr rfl (sr rfl (sr rfl (subReg_nil _)))))))), ⟨rfl, ((hB19.onto (hE7.trans hE16) (by omega)).trans hE30), ⟨by first | omega | (dsimp only; omega), by omega, (by rw [Nd.madeSt_succ hx11, ← hst]; simp only [Nd.stepM, hc10, hc21, hc22, hc23, hc24, Nd.mostM, Nd.empty, Nd.top2_at ht26, Nd.top_at ht27, Bool.or_true, Bool.true_or, Bool.or_false, Bool.false_or, cond_true, cond_false, Bool.true_and, Bool.false_and, Bool.and_true, Bool.and_false]), (h29.ext hE30), (hO31.dom (by intro k h1 _ _; (try dsimp only at h1); (repeat' first | (guard_hyp h1 : _ ∨ _; refine Or.elim h1 (fun h1 => ?_) (fun h1 => ?_)) | (guard_hyp h1 : _ ∧ _; have hx := h1.2; replace h1 := h1.1)) <;> first | contradiction | omega | (dsimp only; omega)))⟩⟩, by first | omega | (dsimp only; omega)⟩
   | true =>
    refine WL.eql rfl rfl rfl rfl hc22 ?_
    have hp22 := beq_iff_eq.1 hc22
    refine WL.assign rfl rfl rfl ?_
    refine WL.dn ?_
    refine WC.cond_t rfl ?_
    refine WC.region ?_
    refine WL.move rfl rfl rfl ?_
    refine WL.build (l := (zc 1 0 0 (.slice none 0 0))) rfl rfl Ty.zero30 Ty.st30 ⟨⟨rfl, rfl⟩, (by kernel_rfl)⟩ ?_
    have hn23 : NodeL _ w20 (zc 1 0 0 (.slice none 0 0)) (Nd.mk 1 Nd.zero 0 0 ([])) := NodeL.shut (k := 1) (s := Nd.zero) (mn := 0) (mx := 0) (sl := .slice none 0 0) (ts := []) (NodesV.nil (fun _ => False) _ none 0)
    have hn23 := hn23.lt
    refine WL.buildSlice (vs := [.agg (zc 1 0 0 (.slice none 0 0)).toArray]) (cells := (zc 1 0 0 (.slice none 0 0))) rfl rfl Ty.slice24 Ty.zero30 rfl rfl rfl rfl rfl rfl (fun b24 w29 hb25 hE28 hs26 hR27 => ?_)
    have hts24 := (NodesV.lit (n := 1) (ts := [(Nd.mk 1 Nd.zero 0 0 ([]))]) hR27 (RowsL.cons (hn23.ext hE28) (RowsL.nil' _)) rfl rfl (by decide)).lt
    have h30 := (((hO.ext hE16).but hB19 (fun h1 => by first | omega | (dsimp only at h1; omega)) (fun hk => by have := (hO.ext hE16).own _ hk; have := hol _ hk; omega)).ext hE28)
    have hol31 := h30.own
    refine WL.append1 rfl rfl Ty.slice24 Ty.zero30 rfl small_node rfl rfl h30 hR27 (hn23.ext hE28) (by intro k h1 hh; have := hol31 _ hh; have := hol _ hh; first | omega | ((try dsimp only at h1); (repeat' first | (guard_hyp h1 : _ ∨ _; refine Or.elim h1 (fun h1 => ?_) (fun h1 => ?_)) | (guard_hyp h1 : _ ∧ _; have hx := h1.2; replace h1 := h1.1)) <;> first | contradiction | omega)) (by omega) (by omega) ?_
    intro v31 w31 hG31 hO31 hv31
    have hE31 := grown_below hG31 ((hB19.onto (hE7.trans hE16) (by omega)).trans hE28) (by intro k hk; have := hol31 _ hk; omega)
    have hz31 := hE31.size
    have hzz31 := hG31.size
    refine WL.assign rfl rfl rfl ?_
    refine WL.dn ?_
    refine WC.region ?_
    refine WL.add (v := (k : Int) + 1) rfl rfl rfl rfl (IntWalk.i64_in _ (by omega)) ?_
    refine WL.move rfl rfl rfl ?_
    refine WL.nil (fun a_ ha => ?_)
    have h32 := (grown_row hG31 ((hB19.row (hR2.ext hE16) (by omega)).ext hE28) (fun hh => by have := hol31 _ hh; have := hol _ hh; omega))
    exact ⟨(k + 1, v31, ⟨pile ++ [(Nd.mk 1 Nd.zero 0 0 ([]))], u, gr⟩), _, ha.weaken (sr rfl (sr rfl (sr rfl (sr rfl (sr rfl (sr rfl (sr rfl (subReg_nil _)))))))), ⟨rfl, hE31, ⟨by first | omega | (dsimp only; omega), by omega, (by rw [Nd.madeSt_succ hx11, ← hst]; simp only [Nd.stepM, hc10, hc21, hc22, Nd.mostM, Nd.empty, Bool.or_true, Bool.true_or, Bool.or_false, Bool.false_or, cond_true, cond_false, Bool.true_and, Bool.false_and, Bool.and_true, Bool.and_false]), h32, (hO31.dom (by intro k h1 _ _; (try dsimp only at h1); (repeat' first | (guard_hyp h1 : _ ∨ _; refine Or.elim h1 (fun h1 => ?_) (fun h1 => ?_)) | (guard_hyp h1 : _ ∧ _; have hx := h1.2; replace h1 := h1.1)) <;> first | contradiction | omega | (dsimp only; omega)))⟩⟩, by first | omega | (dsimp only; omega)⟩
  | true =>
   refine WL.lss rfl rfl rfl rfl hc21 ?_
   have hp21 := of_decide_eq_true hc21
   refine WL.assign rfl rfl rfl ?_
   refine WL.dn ?_
   refine WC.cond_t rfl ?_
   refine WC.region ?_
   refine WL.move rfl rfl rfl ?_
   refine WL.fieldAddr rfl rfl Ty.fld49_1 rfl ?_
   refine WL.load_fld rfl rfl Ty.flat5 rfl hR18 rfl ?_
   refine WL.call rfl rfl rfl Ty.ent21 (letters_ok _ x11.2.1 (by omega)) ?_
   rintro _ w23 ⟨rfl, hE22⟩
   have hzhE22 := hE22.size
   refine ⟨_, rfl, ?_⟩
   refine WL.call rfl rfl rfl Ty.ent20 (class_ok _ (Nd.lettersS x11.2.1) (by first | decide | exact Nd.lettersS_len _)) ?_
   rintro _ w26 ⟨l24, rfl, hr24, hE25⟩
   have hzhE25 := hE25.size
   refine ⟨_, rfl, ?_⟩
   have hn24 := hr24.lt
   obtain ⟨a24, cap24, rfl, hts24, hlen24⟩ := hn24.op2
   refine WL.buildSlice (vs := [.agg (tcells (Nd.classS (Nd.lettersS x11.2.1)) (.slice a24 (Nd.classS (Nd.lettersS x11.2.1)).subs.length cap24)).toArray]) (cells := (tcells (Nd.classS (Nd.lettersS x11.2.1)) (.slice a24 (Nd.classS (Nd.lettersS x11.2.1)).subs.length cap24))) rfl rfl Ty.slice24 Ty.zero30 rfl rfl rfl rfl rfl rfl (fun b27 w32 hb28 hE31 hs29 hR30 => ?_)
   have hts27 := (NodesV.lit (n := 1) (ts := [(Nd.classS (Nd.lettersS x11.2.1))]) hR30 (RowsL.cons (hn24.ext hE31) (RowsL.nil' _)) rfl rfl (by decide)).lt
   have h33 := (((((hO.ext hE16).but hB19 (fun h1 => by first | omega | (dsimp only at h1; omega)) (fun hk => by have := (hO.ext hE16).own _ hk; have := hol _ hk; omega)).ext hE22).ext hE25).ext hE31)
   have hol34 := h33.own
   refine WL.append1 rfl rfl Ty.slice24 Ty.zero30 rfl small_node rfl rfl h33 hR30 (hn24.ext hE31) (by intro k h1 hh; have := hol34 _ hh; have := hol _ hh; first | omega | ((try dsimp only at h1); (repeat' first | (guard_hyp h1 : _ ∨ _; refine Or.elim h1 (fun h1 => ?_) (fun h1 => ?_)) | (guard_hyp h1 : _ ∧ _; have hx := h1.2; replace h1 := h1.1)) <;> first | contradiction | omega)) (by omega) (by omega) ?_
   intro v34 w34 hG34 hO34 hv34
   have hE34 := grown_below hG34 ((((hB19.onto (hE7.trans hE16) (by omega)).trans hE22).trans hE25).trans hE31) (by intro k hk; have := hol34 _ hk; omega)
   have hz34 := hE34.size
   have hzz34 := hG34.size
   refine WL.assign rfl rfl rfl ?_
   refine WL.dn ?_
   refine WC.region ?_
   refine WL.add (v := (k : Int) + 1) rfl rfl rfl rfl (IntWalk.i64_in _ (by omega)) ?_
   refine WL.move rfl rfl rfl ?_
   refine WL.nil (fun a_ ha => ?_)
   have h35 := (grown_row hG34 ((((hB19.row (hR2.ext hE16) (by omega)).ext hE22).ext hE25).ext hE31) (fun hh => by have := hol34 _ hh; have := hol _ hh; omega))
   exact ⟨(k + 1, v34, ⟨pile ++ [(Nd.classS (Nd.lettersS x11.2.1))], u, gr⟩), _, ha.weaken (sr rfl (sr rfl (sr rfl (sr rfl (sr rfl (sr rfl (sr rfl (subReg_nil _)))))))), ⟨rfl, hE34, ⟨by first | omega | (dsimp only; omega), by omega, (by rw [Nd.madeSt_succ hx11, ← hst]; simp only [Nd.stepM, hc10, hc21, Nd.mostM, Nd.empty, Bool.or_true, Bool.true_or, Bool.or_false, Bool.false_or, cond_true, cond_false, Bool.true_and, Bool.false_and, Bool.and_true, Bool.and_false]), h35, (hO34.dom (by intro k h1 _ _; (try dsimp only at h1); (repeat' first | (guard_hyp h1 : _ ∨ _; refine Or.elim h1 (fun h1 => ?_) (fun h1 => ?_)) | (guard_hyp h1 : _ ∧ _; have hx := h1.2; replace h1 := h1.1)) <;> first | contradiction | omega | (dsimp only; omega)))⟩⟩, by first | omega | (dsimp only; omega)⟩
end Go.Proofs.Yteenegaadlhjdaa
namespace Go.Proofs.Yteenegaadlhjdaa
namespace Nd
theorem sok_class (n : Int) : (classS (lettersS n)).sok = true := by
  have : ∀ l ∈ L12, SOk (setB l) := by decide
  exact sok_mk (this _ (lettersS_mem n)) (fun u hu => by cases hu)
theorem sok_empty : Nd.empty.sok = true := by decide
theorem sok_none : Nd.none.sok = true := by decide
theorem sok_flatJ1 {kd : Int} {t : Nd} (h : t.sok = true) : ∀ u ∈ flatJ1 kd t, u.sok = true := by
  intro u hu
  unfold flatJ1 at hu
  revert hu
  cases (t.kind == kd) <;> cases ((kd == 3) && (t.kind == 1)) <;> intro hu <;> simp at hu
  · subst hu; exact h
  · exact sok_subs h hu
  · exact sok_subs h hu
theorem sok_joins {kd : Int} {a b : Nd} (ha : a.sok = true) (hb : b.sok = true) : (joins kd a b).sok = true := by
  unfold joins flatJ
  simp only [List.flatMap_cons, List.flatMap_nil, List.append_nil]
  have hl : ∀ u ∈ flatJ1 kd a ++ flatJ1 kd b, u.sok = true := by
    intro u hu
    rcases List.mem_append.1 hu with hu | hu
    · exact sok_flatJ1 ha u hu
    · exact sok_flatJ1 hb u hu
  generalize flatJ1 kd a ++ flatJ1 kd b = l at hl
  rw [joinsL_eq]
  match l, hl with
  | [], _ => exact sok_empty
  | [x], hl => exact hl x (by simp)
  | x :: y :: l, hl => exact sok_mk sok_zero hl
theorem sok_one {k mn mx : Int} {t : Nd} (h : t.sok = true) : (mk k zero mn mx [t]).sok = true := sok_mk sok_zero (fun u hu => by simp [subs] at hu; subst hu; exact h)
theorem sok_step {s : M3} {x : Int × Int × Int} (h : ∀ t ∈ s.pile, t.sok = true) : ∀ t ∈ (stepM s x).pile, t.sok = true := by
  have htop : ∀ {l : List Nd}, (∀ t ∈ l, t.sok = true) → (top l).sok = true := by
    intro l hl
    unfold top
    cases hq : l[l.length - 1]? with
    | none => exact sok_none
    | some t => exact hl t (List.mem_of_getElem? hq)
  have htop2 : ∀ {l : List Nd}, (∀ t ∈ l, t.sok = true) → (top2 l).sok = true := by
    intro l hl
    unfold top2
    cases hq : l[l.length - 2]? with
    | none => exact sok_none
    | some t => exact hl t (List.mem_of_getElem? hq)
  have add : ∀ (n : Nat) (t : Nd), t.sok = true → ∀ u ∈ s.pile.take n ++ [t], u.sok = true := fun n t ht u hu => by
    rcases List.mem_append.1 hu with hu | hu
    · exact h u (List.mem_of_mem_take hu)
    · simp at hu; subst hu; exact ht
  have addA : ∀ (t : Nd), t.sok = true → ∀ u ∈ s.pile ++ [t], u.sok = true := fun t ht u hu => by
    rcases List.mem_append.1 hu with hu | hu
    · exact h u hu
    · simp at hu; subst hu; exact ht
  have setA : ∀ (n : Nat) (t : Nd), t.sok = true → ∀ u ∈ s.pile.set n t, u.sok = true := fun n t ht u hu => by
    rcases List.mem_or_eq_of_mem_set hu with hu | rfl
    · exact h u hu
    · exact ht
  unfold stepM
  dsimp only
  cases decide (x.1.tmod 12 < 4)
  · cases (x.1.tmod 12 == 4)
    · cases decide (x.1.tmod 12 < 7) && decide (1 < (s.pile.length : Int))
      · cases decide (x.1.tmod 12 < 9) && decide (1 < (s.pile.length : Int))
        · cases (x.1.tmod 12 == 9) && decide (0 < (s.pile.length : Int)) && decide (s.g < 9)
          · cases decide (9 < x.1.tmod 12) && decide (0 < (s.pile.length : Int)) && ((top s.pile).kind != 1)
            · exact h
            · simp only [cond_false, cond_true]
              cases decide (s.u * max3 (x.2.1.tmod 3) (mostM (x.2.1.tmod 3) (x.2.2.tmod 4)) 1 ≤ 16)
              · exact h
              · exact setA _ _ (sok_one (htop h))
          · exact setA _ _ (sok_one (htop h))
        · exact add _ _ (sok_joins (htop2 h) (htop h))
      · exact add _ _ (sok_joins (htop2 h) (htop h))
    · exact addA _ sok_empty
  · exact addA _ (sok_class _)
theorem made_sok (xs : List (Int × Int × Int)) : (made xs).sok = true := by
  have key : ∀ (l : List (Int × Int × Int)) (s : M3), (∀ t ∈ s.pile, t.sok = true) → ∀ t ∈ (l.foldl stepM s).pile, t.sok = true := by
    intro l
    induction l with
    | nil => intro s h; exact h
    | cons x l ih => intro s h; exact ih _ (sok_step h)
  have h := key (xs.take 25) ⟨[], 1, 0⟩ (by simp)
  unfold made madeSt
  generalize (List.foldl stepM ⟨[], 1, 0⟩ (xs.take 25)).pile = p at h
  cases p with
  | nil => exact (by decide : (classS [97]).sok = true)
  | cons t ts =>
    simp only [madeEnd]
    have fold : ∀ (l : List Nd) (t : Nd), t.sok = true → (∀ u ∈ l, u.sok = true) → (l.foldl (joins 4) t).sok = true := by
      intro l
      induction l with
      | nil => intro t h _; exact h
      | cons x l ih => intro t h hl; exact ih _ (sok_joins h (hl x (by simp))) (fun u hu => hl u (by simp [hu]))
    exact fold ts t (h t (by simp)) (fun u hu => h u (by simp [hu]))
section
variable {a b c : Nd}
end
end Nd
end Go.Proofs.Yteenegaadlhjdaa
