/- Part 5 of the proof: walks through the program's functions, and what they compute in plain Lean. -/
import Derived.Test.YteenegaadlhjdaaOd4
import Derived.KernelRfl
set_option linter.all false
namespace Go.Proofs.Yteenegaadlhjdaa
open Go.Proofs Go.RowKit
abbrev qd1 : Nd := (Nd.classS ([97]))
abbrev qd2 : Nd := (Nd.classS ([98]))
abbrev qd3 : Nd := (Nd.classS ([99]))
abbrev qd4 : Nd := (Nd.classS ([100]))
abbrev qd5 : Nd := (Nd.classS ([97, 98]))
abbrev qd6 : Nd := (Nd.mk 1 Nd.zero 0 0 ([]))
abbrev qd7 : Nd := (Nd.mk 5 Nd.zero 0 1 [qd1])
abbrev qd8 : Nd := (Nd.mk 5 Nd.zero 2 2 [qd7])
abbrev qd9 : Nd := (Nd.mk 6 Nd.zero 0 0 ([qd1]))
abbrev qd10 : Nd := (Nd.mk 5 Nd.zero 0 (-1) [qd1])
abbrev qd11 : Nd := (Nd.mk 5 Nd.zero 0 (-1) [qd2])
abbrev qd12 : Nd := (Nd.mk 5 Nd.zero 1 (-1) [qd1])
abbrev qd13 : Nd := (Nd.mk 5 Nd.zero 1 (-1) [qd10])
abbrev qd14 : Nd := (Nd.mk 4 Nd.zero 0 0 ([qd1, qd6]))
abbrev qd15 : Nd := (Nd.mk 4 Nd.zero 0 0 ([qd9, qd2]))
abbrev qd16 : Nd := (Nd.mk 3 Nd.zero 0 0 ([qd1, qd2]))
abbrev qd17 : Nd := (Nd.mk 3 Nd.zero 0 0 ([qd3, qd4]))
abbrev qd18 : Nd := (Nd.mk 4 Nd.zero 0 0 ([qd11, qd1]))
abbrev qd19 : Nd := (Nd.mk 5 Nd.zero 0 1 [qd18])
abbrev qd20 : Nd := (Nd.mk 4 Nd.zero 0 0 ([qd1, qd11]))
abbrev qd21 : Nd := (Nd.mk 3 Nd.zero 0 0 ([qd12, qd2]))
abbrev qd22 : Nd := (Nd.mk 4 Nd.zero 0 0 ([qd16, qd17]))
abbrev qd23 : Nd := (Nd.mk 3 Nd.zero 0 0 ([qd10, qd10]))
abbrev qd24 : Nd := (Nd.mk 4 Nd.zero 0 0 ([qd2, qd1, qd2]))
abbrev qd25 : Nd := (Nd.mk 4 Nd.zero 0 0 ([qd9, qd2, qd2]))
abbrev qd26 : Nd := (Nd.mk 4 Nd.zero 0 0 ([qd9, qd2, qd3]))
abbrev qd27 : Nd := (Nd.mk 3 Nd.zero 0 0 ([qd1, qd10, qd2]))
abbrev qd28 : Nd := (Nd.mk 4 Nd.zero 0 0 ([qd16, qd17, qd16]))
theorem Norm_okC {D : Nat → Prop} {w : World} {l : List Value} {T : Nd} (hT : NodeL D w l T) (hc : T.clean = true) (hfi : Nd.Fine T) (hs : T.sok = true) : Calls Try.prog 9 #[.agg l.toArray] w fun e w' => ∃ l', e = .returned (.tuple #[.agg l'.toArray, .int .i64 0]) ∧ NodeL (fun k => w.heap.size ≤ k) w' l' (Nd.norm T) ∧ Ext w w' := by
 have h := Norm_ok Nd.normOk D w l T hT (fun _ => hfi) hs
 rw [hc] at h
 exact h
set_option maxRecDepth 20000 in
set_option maxHeartbeats 4000000 in
theorem awake11_ok (w : World) :
  Calls Try.prog 6 #[] w fun e w' => e = .returned (.bool true) ∧ Ext w w' := by
 refine Calls.enter (args := []) Try.func6 rfl rfl rfl rfl ?_
 refine sq ?_
 refine asg ?_
 refine WL.dn ?_
 refine sq ?_
 refine WL.call rfl rfl rfl Ty.ent12 (class11_ok _ ([97]) (by decide)) ?_
 rintro _ w3 ⟨l1, rfl, hr1, hE2⟩
 have hzhE2 := hE2.size
 refine ⟨_, rfl, ?_⟩
 have hn1 := hr1.lt
 obtain ⟨a1, cap1, rfl, hts1, hlen1⟩ := hn1.op2
 refine WL.call rfl rfl rfl Ty.ent12 (class11_ok _ ([98]) (by decide)) ?_
 rintro _ w6 ⟨l4, rfl, hr4, hE5⟩
 have hzhE5 := hE5.size
 refine ⟨_, rfl, ?_⟩
 have hn4 := hr4.lt
 obtain ⟨a4, cap4, rfl, hts4, hlen4⟩ := hn4.op2
 refine WL.build (l := (zc 1 0 0 (.slice none 0 0))) rfl rfl Ty.zero30 Ty.st30 ⟨⟨rfl, rfl⟩, (by kernel_rfl)⟩ ?_
 have hn7 : NodeL _ w6 (zc 1 0 0 (.slice none 0 0)) qd6 := NodeL.shut (k := 1) (s := Nd.zero) (mn := 0) (mx := 0) (sl := .slice none 0 0) (ts := []) (NodesV.nil (fun _ => False) _ none 0)
 have hn7 := hn7.lt
 refine WL.alloc rfl rfl Ty.zero30 rfl (fun b8 w13 hb9 hE12 hs10 hR11 => ?_)
 refine WL.alloc rfl rfl Ty.zero30 rfl (fun b14 w19 hb15 hE18 hs16 hR17 => ?_)
 refine WL.alloc rfl rfl Ty.zero30 rfl (fun b20 w25 hb21 hE24 hs22 hR23 => ?_)
 have h28 := ((hR11.ext hE18).ext hE24)
 refine WL.store_box rfl rfl rfl h28 Ty.agg30 rfl rfl (fun w29 hB27 hR26 => ?_)
 have hzhB27 := hB27.size
 have h32 := (hB27.row (hR17.ext hE24) (by omega))
 refine WL.store_box rfl rfl rfl h32 Ty.agg30 rfl rfl (fun w33 hB31 hR30 => ?_)
 have hzhB31 := hB31.size
 have h36 := (hB31.row (hB27.row hR23 (by omega)) (by omega))
 refine WL.store_box rfl rfl rfl h36 Ty.agg30 rfl rfl (fun w37 hB35 hR34 => ?_)
 have hzhB35 := hB35.size
 refine WL.dn ?_
 refine sq ?_
 have h38 := (hB35.row (hB31.row hR26 (by omega)) (by omega))
 refine WL.load_box rfl rfl rfl h38 Ty.agg30 ?_
 have h39 := (((((((hn1.ext hE5).ext hE12).ext hE18).ext hE24).bu hB27).bu hB31).bu hB35)
 refine WL.call rfl rfl rfl Ty.ent18 (rep11_ok _ _ _ qd1 0 (-1) h39) ?_
 rintro _ w42 ⟨l40, rfl, hr40, hE41⟩
 have hzhE41 := hE41.size
 refine ⟨_, rfl, ?_⟩
 have hn40 := hr40.lt
 obtain ⟨a40, cap40, rfl, hts40, hlen40⟩ := hn40.op2
 refine WL.alloc rfl rfl Ty.zero30 rfl (fun b43 w48 hb44 hE47 hs45 hR46 => ?_)
 refine WL.store_box rfl rfl rfl hR46 Ty.agg30 rfl rfl (fun w51 hB50 hR49 => ?_)
 have hzhB50 := hB50.size
 refine WL.dn ?_
 refine sq ?_
 have h52 := (hB50.row ((h38.ext hE41).ext hE47) (by omega))
 refine WL.load_box rfl rfl rfl h52 Ty.agg30 ?_
 have h53 := (hB50.row (((hB35.row hR30 (by omega)).ext hE41).ext hE47) (by omega))
 refine WL.load_box rfl rfl rfl h53 Ty.agg30 ?_
 have h54 := (((h39.ext hE41).ext hE47).bu hB50)
 have h55 := (((((((((hn4.ext hE12).ext hE18).ext hE24).bu hB27).bu hB31).bu hB35).ext hE41).ext hE47).bu hB50)
 refine WL.buildSlice (vs := [.agg (tcells qd1 (.slice a1 qd1.subs.length cap1)).toArray, .agg (tcells qd2 (.slice a4 qd2.subs.length cap4)).toArray]) (cells := (tcells qd1 (.slice a1 qd1.subs.length cap1) ++ tcells qd2 (.slice a4 qd2.subs.length cap4))) rfl rfl Ty.slice24 Ty.zero30 rfl rfl rfl rfl rfl rfl (fun b56 w61 hb57 hE60 hs58 hR59 => ?_)
 have hts56 := (NodesV.lit (n := 2) (ts := [qd1, qd2]) hR59 (RowsL.cons (h54.ext hE60) (RowsL.cons (h55.ext hE60) (RowsL.nil' _))) rfl rfl (by decide)).lt
 refine WL.call rfl rfl rfl Ty.ent19 (node11_ok _ _ 3 _ _ ([qd1, qd2]) hts56) ?_
 rintro _ w64 ⟨l62, rfl, hr62, hE63⟩
 have hzhE63 := hE63.size
 refine ⟨_, rfl, ?_⟩
 have hn62 := hr62.lt
 obtain ⟨a62, cap62, rfl, hts62, hlen62⟩ := hn62.op2
 refine WL.call rfl rfl rfl Ty.ent12 (class11_ok _ ([99]) (by decide)) ?_
 rintro _ w67 ⟨l65, rfl, hr65, hE66⟩
 have hzhE66 := hE66.size
 refine ⟨_, rfl, ?_⟩
 have hn65 := hr65.lt
 obtain ⟨a65, cap65, rfl, hts65, hlen65⟩ := hn65.op2
 refine WL.call rfl rfl rfl Ty.ent12 (class11_ok _ ([100]) (by decide)) ?_
 rintro _ w70 ⟨l68, rfl, hr68, hE69⟩
 have hzhE69 := hE69.size
 refine ⟨_, rfl, ?_⟩
 have hn68 := hr68.lt
 obtain ⟨a68, cap68, rfl, hts68, hlen68⟩ := hn68.op2
 refine WL.buildSlice (vs := [.agg (tcells qd3 (.slice a65 qd3.subs.length cap65)).toArray, .agg (tcells qd4 (.slice a68 qd4.subs.length cap68)).toArray]) (cells := (tcells qd3 (.slice a65 qd3.subs.length cap65) ++ tcells qd4 (.slice a68 qd4.subs.length cap68))) rfl rfl Ty.slice24 Ty.zero30 rfl rfl rfl rfl rfl rfl (fun b71 w76 hb72 hE75 hs73 hR74 => ?_)
 have hts71 := (NodesV.lit (n := 2) (ts := [qd3, qd4]) hR74 (RowsL.cons ((hn65.ext hE69).ext hE75) (RowsL.cons (hn68.ext hE75) (RowsL.nil' _))) rfl rfl (by decide)).lt
 refine WL.call rfl rfl rfl Ty.ent19 (node11_ok _ _ 3 _ _ ([qd3, qd4]) hts71) ?_
 rintro _ w79 ⟨l77, rfl, hr77, hE78⟩
 have hzhE78 := hE78.size
 refine ⟨_, rfl, ?_⟩
 have hn77 := hr77.lt
 obtain ⟨a77, cap77, rfl, hts77, hlen77⟩ := hn77.op2
 refine WL.alloc rfl rfl Ty.zero30 rfl (fun b80 w85 hb81 hE84 hs82 hR83 => ?_)
 refine WL.alloc rfl rfl Ty.zero30 rfl (fun b86 w91 hb87 hE90 hs88 hR89 => ?_)
 refine WL.store_box rfl rfl rfl (hR83.ext hE90) Ty.agg30 rfl rfl (fun w94 hB93 hR92 => ?_)
 have hzhB93 := hB93.size
 refine WL.store_box rfl rfl rfl (hB93.row hR89 (by omega)) Ty.agg30 rfl rfl (fun w97 hB96 hR95 => ?_)
 have hzhB96 := hB96.size
 refine WL.dn ?_
 refine WC.seqk ?_
 refine WC.weaken (r' := [(0, .bool false), (1, pt b8 0), (2, pt b14 0), (3, pt b20 0), (4, pt b43 0), (5, pt b80 0), (6, pt b86 0)]) (s4 (sr rfl (sr rfl (sr rfl (subReg_nil _))))) ?_
 refine WC.region ?_
 have h98 := (hB96.row (hB93.row ((((((((h52.ext hE60).ext hE63).ext hE66).ext hE69).ext hE75).ext hE78).ext hE84).ext hE90) (by omega)) (by omega))
 refine WL.load_box rfl rfl rfl h98 Ty.agg30 ?_
 have h99 := ((((((((((h54.ext hE60).ext hE63).ext hE66).ext hE69).ext hE75).ext hE78).ext hE84).ext hE90).bu hB93).bu hB96)
 refine WL.buildSlice (vs := [.agg (tcells qd1 (.slice a1 qd1.subs.length cap1)).toArray]) (cells := (tcells qd1 (.slice a1 qd1.subs.length cap1))) rfl rfl Ty.slice24 Ty.zero30 rfl rfl rfl rfl rfl rfl (fun b100 w105 hb101 hE104 hs102 hR103 => ?_)
 have hts100 := (NodesV.lit (n := 1) (ts := [qd1]) hR103 (RowsL.cons (h99.ext hE104) (RowsL.nil' _)) rfl rfl (by decide)).lt
 refine WL.call rfl rfl rfl Ty.ent19 (node11_ok _ _ 6 _ _ ([qd1]) hts100) ?_
 rintro _ w108 ⟨l106, rfl, hr106, hE107⟩
 have hzhE107 := hE107.size
 refine ⟨_, rfl, ?_⟩
 have hn106 := hr106.lt
 obtain ⟨a106, cap106, rfl, hts106, hlen106⟩ := hn106.op2
 refine WL.alloc rfl rfl Ty.zero30 rfl (fun b109 w114 hb110 hE113 hs111 hR112 => ?_)
 refine WL.store_box rfl rfl rfl hR112 Ty.agg30 rfl rfl (fun w117 hB116 hR115 => ?_)
 have hzhB116 := hB116.size
 refine WL.dn ?_
 refine WC.seqk ?_
 refine WC.seqk ?_
 have h118 := ((((h99.ext hE104).ext hE107).ext hE113).bu hB116)
 have h119 := (((hts100.ext hE107).ext hE113).bu hB116)
 have h120 := ((hn106.ext hE113).bu hB116)
 have h121 := (hB116.row (((h98.ext hE104).ext hE107).ext hE113) (by omega))
 have h122 := (hB116.row ((((hB96.row (hB93.row ((((((((h53.ext hE60).ext hE63).ext hE66).ext hE69).ext hE75).ext hE78).ext hE84).ext hE90) (by omega)) (by omega)).ext hE104).ext hE107).ext hE113) (by omega))
 have h123 := ((((((((((((((h55.ext hE60).ext hE63).ext hE66).ext hE69).ext hE75).ext hE78).ext hE84).ext hE90).bu hB93).bu hB96).ext hE104).ext hE107).ext hE113).bu hB116)
 have h124 := (hB116.row ((((hB96.row (hB93.row (((((((((hB50.row ((hR34.ext hE41).ext hE47) (by omega)).ext hE60).ext hE63).ext hE66).ext hE69).ext hE75).ext hE78).ext hE84).ext hE90) (by omega)) (by omega)).ext hE104).ext hE107).ext hE113) (by omega))
 have h125 := (((((((((((((((((((((((hn7.ext hE12).ext hE18).ext hE24).bu hB27).bu hB31).bu hB35).ext hE41).ext hE47).bu hB50).ext hE60).ext hE63).ext hE66).ext hE69).ext hE75).ext hE78).ext hE84).ext hE90).bu hB93).bu hB96).ext hE104).ext hE107).ext hE113).bu hB116)
 have h126 := (hB116.row ((((hB96.row (hB93.row ((((((((hR49.ext hE60).ext hE63).ext hE66).ext hE69).ext hE75).ext hE78).ext hE84).ext hE90) (by omega)) (by omega)).ext hE104).ext hE107).ext hE113) (by omega))
 have h127 := ((((((((((((((((hn40.ext hE47).bu hB50).ext hE60).ext hE63).ext hE66).ext hE69).ext hE75).ext hE78).ext hE84).ext hE90).bu hB93).bu hB96).ext hE104).ext hE107).ext hE113).bu hB116)
 have h128 := (hB116.row ((((hB96.row hR92 (by omega)).ext hE104).ext hE107).ext hE113) (by omega))
 have h129 := ((((((((((((hn62.ext hE66).ext hE69).ext hE75).ext hE78).ext hE84).ext hE90).bu hB93).bu hB96).ext hE104).ext hE107).ext hE113).bu hB116)
 have h130 := (hB116.row (((hR95.ext hE104).ext hE107).ext hE113) (by omega))
 have h131 := ((((((((hn77.ext hE84).ext hE90).bu hB93).bu hB96).ext hE104).ext hE107).ext hE113).bu hB116)
 refine WC.weaken (r' := [(0, .bool false), (1, pt b8 0), (2, pt b14 0), (3, pt b20 0), (4, pt b43 0), (5, pt b80 0), (6, pt b86 0), (7, pt b109 0)]) (s4 (s4 (subReg_nil _))) ?_
 refine WC.draw 88 [28, 29, 30, 31, 32, 33, 34, 35, 36, 37, 38, 39, 40, 41, 42, 43, 44, 45, 46, 47, 48, 49, 50, 51, 52, 53, 54, 55, 56, 57, 58, 59, 60, 61, 62, 63, 64, 65, 66, 67, 68, 69, 70, 71, 72, 73, 74, 75, 76, 77, 78, 79, 80, 81, 82, 83, 84, 85, 86, 87, 88, 89, 90, 91, 92, 93, 94, 95, 96, 97, 98, 99, 100, 101, 102, 103, 104, 105, 106, 107, 108, 109, 110, 111, 112, 113, 114, 115] [pc (.agg (tcells qd2 (.slice a4 qd2.subs.length cap4)).toArray), pc (.agg (tcells qd1 (.slice a1 qd1.subs.length cap1)).toArray), pc (.agg (tcells qd2 (.slice a4 qd2.subs.length cap4)).toArray), pnodes (fun _ => True) ([qd2, qd1, qd2]), pnode (fun _ => True) qd24, pnode (fun k => w117.heap.size ≤ k) qd5, ppair (fun _ => True) qd24 qd5, pc (.agg (tcells qd1 (.slice a1 qd1.subs.length cap1)).toArray), pc (.agg (zc 1 0 0 (.slice none 0 0)).toArray), pnodes (fun _ => True) ([qd1, qd6]), pnode (fun _ => True) qd14, pc (.agg (tcells qd1 (.slice a1 qd1.subs.length cap1)).toArray), pnode (fun _ => True) qd7, ppair (fun _ => True) qd14 qd7, pc (.agg (tcells qd10 (.slice a40 qd10.subs.length cap40)).toArray), pnode (fun _ => True) qd13, pc (.agg (tcells qd10 (.slice a40 qd10.subs.length cap40)).toArray), ppair (fun _ => True) qd13 qd10, pc (.agg (tcells qd2 (.slice a4 qd2.subs.length cap4)).toArray), pnode (fun _ => True) qd11, pc (.agg (tcells qd1 (.slice a1 qd1.subs.length cap1)).toArray), pnodes (fun _ => True) ([qd11, qd1]), pnode (fun _ => True) qd18, pnode (fun _ => True) qd19, pc (.agg (tcells qd1 (.slice a1 qd1.subs.length cap1)).toArray), pc (.agg (tcells qd2 (.slice a4 qd2.subs.length cap4)).toArray), pnode (fun _ => True) qd11, pnodes (fun _ => True) ([qd1, qd11]), pnode (fun _ => True) qd20, ppair (fun _ => True) qd19 qd20, pc (.agg (tcells qd1 (.slice a1 qd1.subs.length cap1)).toArray), pc (.agg (tcells qd10 (.slice a40 qd10.subs.length cap40)).toArray), pc (.agg (tcells qd2 (.slice a4 qd2.subs.length cap4)).toArray), pnodes (fun _ => True) ([qd1, qd10, qd2]), pnode (fun _ => True) qd27, pc (.agg (tcells qd1 (.slice a1 qd1.subs.length cap1)).toArray), pnode (fun _ => True) qd12, pc (.agg (tcells qd2 (.slice a4 qd2.subs.length cap4)).toArray), pnodes (fun _ => True) ([qd12, qd2]), pnode (fun _ => True) qd21, ppair (fun _ => True) qd27 qd21, pc (.agg (tcells qd9 (.slice a106 qd9.subs.length cap106)).toArray), pc (.agg (tcells qd2 (.slice a4 qd2.subs.length cap4)).toArray), pc (.agg (tcells qd2 (.slice a4 qd2.subs.length cap4)).toArray), pnodes (fun _ => True) ([qd9, qd2, qd2]), pnode (fun _ => True) qd25, pc (.agg (tcells qd9 (.slice a106 qd9.subs.length cap106)).toArray), pc (.agg (tcells qd2 (.slice a4 qd2.subs.length cap4)).toArray), pnodes (fun _ => True) ([qd9, qd2]), pnode (fun _ => True) qd15, ppair (fun _ => True) qd25 qd15, pc (.agg (tcells qd9 (.slice a106 qd9.subs.length cap106)).toArray), pc (.agg (tcells qd2 (.slice a4 qd2.subs.length cap4)).toArray), pnode (fun k => w117.heap.size ≤ k) qd3, pnodes (fun _ => True) ([qd9, qd2, qd3]), pnode (fun _ => True) qd26, pc (.agg (tcells qd9 (.slice a106 qd9.subs.length cap106)).toArray), pc (.agg (tcells qd2 (.slice a4 qd2.subs.length cap4)).toArray), pnode (fun k => w117.heap.size ≤ k) qd3, pnodes (fun _ => True) ([qd9, qd2, qd3]), pnode (fun _ => True) qd26, ppair (fun _ => True) qd26 qd26, pc (.agg (tcells qd16 (.slice a62 qd16.subs.length cap62)).toArray), pc (.agg (tcells qd17 (.slice a77 qd17.subs.length cap77)).toArray), pc (.agg (tcells qd16 (.slice a62 qd16.subs.length cap62)).toArray), pnodes (fun _ => True) ([qd16, qd17, qd16]), pnode (fun _ => True) qd28, pc (.agg (tcells qd16 (.slice a62 qd16.subs.length cap62)).toArray), pc (.agg (tcells qd17 (.slice a77 qd17.subs.length cap77)).toArray), pnodes (fun _ => True) ([qd16, qd17]), pnode (fun _ => True) qd22, ppair (fun _ => True) qd28 qd22, pc (.agg (tcells qd10 (.slice a40 qd10.subs.length cap40)).toArray), pc (.agg (tcells qd10 (.slice a40 qd10.subs.length cap40)).toArray), pnodes (fun _ => True) ([qd10, qd10]), pnode (fun _ => True) qd23, pc (.agg (tcells qd10 (.slice a40 qd10.subs.length cap40)).toArray), ppair (fun _ => True) qd23 qd10, pc (.agg (tcells qd1 (.slice a1 qd1.subs.length cap1)).toArray), pnode (fun _ => True) qd7, pnode (fun _ => True) qd8, pc (.agg (tcells qd1 (.slice a1 qd1.subs.length cap1)).toArray), pnode (fun _ => True) qd7, pnode (fun _ => True) qd8, ppair (fun _ => True) qd8 qd8, pprs (fun _ => True) 10 [qd24, qd5, qd14, qd7, qd13, qd10, qd19, qd20, qd27, qd21, qd25, qd15, qd26, qd26, qd28, qd22, qd23, qd10, qd8, qd8], pc (.int .i64 10), pc (.int .i64 0)] (by kernel_rfl) (by kernel_rfl) ⟨KW_pc _, KW_pc _, KW_pc _, KW_pnodes _ _, KW_pnode _ _, KW_pnode _ _, KW_ppair _ _ _, KW_pc _, KW_pc _, KW_pnodes _ _, KW_pnode _ _, KW_pc _, KW_pnode _ _, KW_ppair _ _ _, KW_pc _, KW_pnode _ _, KW_pc _, KW_ppair _ _ _, KW_pc _, KW_pnode _ _, KW_pc _, KW_pnodes _ _, KW_pnode _ _, KW_pnode _ _, KW_pc _, KW_pc _, KW_pnode _ _, KW_pnodes _ _, KW_pnode _ _, KW_ppair _ _ _, KW_pc _, KW_pc _, KW_pc _, KW_pnodes _ _, KW_pnode _ _, KW_pc _, KW_pnode _ _, KW_pc _, KW_pnodes _ _, KW_pnode _ _, KW_ppair _ _ _, KW_pc _, KW_pc _, KW_pc _, KW_pnodes _ _, KW_pnode _ _, KW_pc _, KW_pc _, KW_pnodes _ _, KW_pnode _ _, KW_ppair _ _ _, KW_pc _, KW_pc _, KW_pnode _ _, KW_pnodes _ _, KW_pnode _ _, KW_pc _, KW_pc _, KW_pnode _ _, KW_pnodes _ _, KW_pnode _ _, KW_ppair _ _ _, KW_pc _, KW_pc _, KW_pc _, KW_pnodes _ _, KW_pnode _ _, KW_pc _, KW_pc _, KW_pnodes _ _, KW_pnode _ _, KW_ppair _ _ _, KW_pc _, KW_pc _, KW_pnodes _ _, KW_pnode _ _, KW_pc _, KW_ppair _ _ _, KW_pc _, KW_pnode _ _, KW_pnode _ _, KW_pc _, KW_pnode _ _, KW_pnode _ _, KW_ppair _ _ _, KW_pprs _ _ _, KW_pc _, KW_pc _, trivial⟩ rfl rfl rfl (sc4 ?_ ?_ ?_ ?_ (sc4 ?_ ?_ ?_ ?_ (sc4 ?_ ?_ ?_ ?_ (sc4 ?_ ?_ ?_ ?_ (sc4 ?_ ?_ ?_ ?_ (sc4 ?_ ?_ ?_ ?_ (sc4 ?_ ?_ ?_ ?_ (sc4 ?_ ?_ ?_ ?_ (sc4 ?_ ?_ ?_ ?_ (sc4 ?_ ?_ ?_ ?_ (sc4 ?_ ?_ ?_ ?_ (sc4 ?_ ?_ ?_ ?_ (sc4 ?_ ?_ ?_ ?_ (sc4 ?_ ?_ ?_ ?_ (sc4 ?_ ?_ ?_ ?_ (sc4 ?_ ?_ ?_ ?_ (sc4 ?_ ?_ ?_ ?_ (sc4 ?_ ?_ ?_ ?_ (sc4 ?_ ?_ ?_ ?_ (sc4 ?_ ?_ ?_ ?_ (sc4 ?_ ?_ ?_ ?_ (sc4 ?_ ?_ ?_ ?_ (StepsOn.nil _))))))))))))))))))))))) ?_
 ·intro σ β w1 hE1 hbi hk
  refine ⟨[], (agree_nil _), ?_⟩
  refine WL.load_box rfl rfl rfl (h122.ext hE1) Ty.agg30 ?_
  exact dq hbi rfl
 ·intro σ β w1 hE1 hbi hk
  refine ⟨[], (agree_nil _), ?_⟩
  refine WL.load_box rfl rfl rfl (h121.ext hE1) Ty.agg30 ?_
  exact dq hbi rfl
 ·intro σ β w1 hE1 hbi hk
  refine ⟨[], (agree_nil _), ?_⟩
  refine WL.load_box rfl rfl rfl (h122.ext hE1) Ty.agg30 ?_
  exact dq hbi rfl
 ·intro σ β w1 hE1 hbi hk
  have hz1 := hE1.size
  refine ⟨[(28, .agg (tcells qd2 (.slice a4 qd2.subs.length cap4)).toArray), (29, .agg (tcells qd1 (.slice a1 qd1.subs.length cap1)).toArray), (30, .agg (tcells qd2 (.slice a4 qd2.subs.length cap4)).toArray)], (ak hk 0 (ak hk 1 (ak hk 2 (agree_nil _)))), ?_⟩
  refine WL.buildSlice (vs := [.agg (tcells qd2 (.slice a4 qd2.subs.length cap4)).toArray, .agg (tcells qd1 (.slice a1 qd1.subs.length cap1)).toArray, .agg (tcells qd2 (.slice a4 qd2.subs.length cap4)).toArray]) (cells := (tcells qd2 (.slice a4 qd2.subs.length cap4) ++ tcells qd1 (.slice a1 qd1.subs.length cap1) ++ tcells qd2 (.slice a4 qd2.subs.length cap4))) rfl rfl Ty.slice24 Ty.zero30 rfl rfl rfl rfl rfl rfl (fun b155 w160 hb156 hE159 hs157 hR158 => ?_)
  have hts155 := (NodesV.lit (n := 3) (ts := [qd2, qd1, qd2]) hR158 (RowsL.cons ((h123.ext hE1).ext hE159) (RowsL.cons ((h118.ext hE1).ext hE159) (RowsL.cons ((h123.ext hE1).ext hE159) (RowsL.nil' _)))) rfl rfl (by decide)).lt
  exact dqE hbi hE159 ⟨_, _, rfl, (hts155.dom (by intro k h1; refine ⟨trivial, ?_, h1.2⟩; replace h1 := h1.1; intro x hxm; have hi := hbi.hi x hxm; have lo := hbi.lo x hxm; (try dsimp only at h1); (repeat' first | (guard_hyp h1 : _ ∨ _; refine Or.elim h1 (fun h1 => ?_) (fun h1 => ?_)) | (guard_hyp h1 : _ ∧ _; have hx := h1.2; replace h1 := h1.1)) <;> first | contradiction | omega | exact hx.1 x hxm))⟩
 ·intro σ β w1 hE1 hbi hk
  have hz1 := hE1.size
  obtain ⟨_, hv152, a152, cap152, rfl, hts152⟩ := kn hk 3 rfl rfl
  have hts152 := hts152.lt
  have hlen152 := hts152.len
  refine ⟨[(31, .slice a152 (([qd2, qd1, qd2]).length) cap152)], (ag hv152 (agree_nil _)), ?_⟩
  refine WL.call rfl rfl rfl Ty.ent19 (node11_ok _ _ 4 _ _ ([qd2, qd1, qd2]) hts152) ?_
  rintro _ w155 ⟨l153, rfl, hr153, hE154⟩
  have hzhE154 := hE154.size
  refine ⟨_, rfl, ?_⟩
  have hn153 := hr153.lt
  obtain ⟨a153, cap153, rfl, hts153, hlen153⟩ := hn153.op2
  exact dqE hbi hE154 ⟨_, rfl, (hr153.lt.dom (by intro k h1; refine ⟨trivial, ?_, h1.2⟩; replace h1 := h1.1; intro x hxm; have hi := hbi.hi x hxm; have lo := hbi.lo x hxm; (try dsimp only at h1); (repeat' first | (guard_hyp h1 : _ ∨ _; refine Or.elim h1 (fun h1 => ?_) (fun h1 => ?_)) | (guard_hyp h1 : _ ∧ _; have hx := h1.2; replace h1 := h1.1)) <;> first | contradiction | omega | exact hx.1 x hxm))⟩
 ·intro σ β w1 hE1 hbi hk
  refine ⟨[], (agree_nil _), ?_⟩
  refine WL.call rfl rfl rfl Ty.ent12 (class11_ok _ ([97, 98]) (by decide)) ?_
  rintro _ w154 ⟨l152, rfl, hr152, hE153⟩
  refine ⟨_, rfl, ?_⟩
  have hn152 := hr152.lt
  obtain ⟨a152, cap152, rfl, hts152, hlen152⟩ := hn152.op2
  exact dqE hbi hE153 ⟨_, rfl, (hr152.off0 hbi (fun k hk => Nat.le_trans hE1.size hk))⟩
 ·intro σ β w1 hE1 hbi hk
  have hz1 := hE1.size
  obtain ⟨_, hv152, l152, rfl, hn152⟩ := kn hk 4 rfl rfl
  have hn152 := hn152.lt
  obtain ⟨a152, cap152, rfl, hts152, hlen152⟩ := hn152.op2
  obtain ⟨_, hv153, l153, rfl, hn153⟩ := kn hk 5 rfl rfl
  have hn153 := hn153.lt
  obtain ⟨a153, cap153, rfl, hts153, hlen153⟩ := hn153.op2
  refine ⟨[(32, .agg (tcells qd24 (.slice a152 qd24.subs.length cap152)).toArray), (33, .agg (tcells qd5 (.slice a153 qd5.subs.length cap153)).toArray)], (ag hv152 (ag hv153 (agree_nil _))), ?_⟩
  refine WL.build (l := (tcells qd24 (.slice a152 qd24.subs.length cap152) ++ tcells qd5 (.slice a153 qd5.subs.length cap153))) rfl rfl Ty.zero46 Ty.st46 ⟨⟨rfl, rfl⟩, (by kernel_rfl)⟩ ?_
  exact dq hbi ⟨(tcells qd24 (.slice a152 qd24.subs.length cap152)), (tcells qd5 (.slice a153 qd5.subs.length cap153)), rfl, (hn152.lt.dom (by intro k h1; refine ⟨trivial, ?_, h1.2⟩; replace h1 := h1.1; intro x hxm; have hi := hbi.hi x hxm; have lo := hbi.lo x hxm; (try dsimp only at h1); (repeat' first | (guard_hyp h1 : _ ∨ _; refine Or.elim h1 (fun h1 => ?_) (fun h1 => ?_)) | (guard_hyp h1 : _ ∧ _; have hx := h1.2; replace h1 := h1.1)) <;> first | contradiction | omega | exact hx.1 x hxm)), (hn153.lt.dom (by intro k h1; refine ⟨trivial, ?_, h1.2⟩; replace h1 := h1.1; intro x hxm; have hi := hbi.hi x hxm; have lo := hbi.lo x hxm; (try dsimp only at h1); (repeat' first | (guard_hyp h1 : _ ∨ _; refine Or.elim h1 (fun h1 => ?_) (fun h1 => ?_)) | (guard_hyp h1 : _ ∧ _; have hx := h1.2; replace h1 := h1.1)) <;> first | contradiction | omega | exact hx.1 x hxm))⟩
 ·intro σ β w1 hE1 hbi hk
  refine ⟨[], (agree_nil _), ?_⟩
  refine WL.load_box rfl rfl rfl (h121.ext hE1) Ty.agg30 ?_
  exact dq hbi rfl
 ·intro σ β w1 hE1 hbi hk
  refine ⟨[], (agree_nil _), ?_⟩
  refine WL.load_box rfl rfl rfl (h124.ext hE1) Ty.agg30 ?_
  exact dq hbi rfl
 ·intro σ β w1 hE1 hbi hk
  have hz1 := hE1.size
  refine ⟨[(35, .agg (tcells qd1 (.slice a1 qd1.subs.length cap1)).toArray), (36, .agg (zc 1 0 0 (.slice none 0 0)).toArray)], (ak hk 7 (ak hk 8 (agree_nil _))), ?_⟩
  refine WL.buildSlice (vs := [.agg (tcells qd1 (.slice a1 qd1.subs.length cap1)).toArray, .agg (zc 1 0 0 (.slice none 0 0)).toArray]) (cells := (tcells qd1 (.slice a1 qd1.subs.length cap1) ++ zc 1 0 0 (.slice none 0 0))) rfl rfl Ty.slice24 Ty.zero30 rfl rfl rfl rfl rfl rfl (fun b154 w159 hb155 hE158 hs156 hR157 => ?_)
  have hts154 := (NodesV.lit (n := 2) (ts := [qd1, qd6]) hR157 (RowsL.cons ((h118.ext hE1).ext hE158) (RowsL.cons ((h125.ext hE1).ext hE158) (RowsL.nil' _))) rfl rfl (by decide)).lt
  exact dqE hbi hE158 ⟨_, _, rfl, (hts154.dom (by intro k h1; refine ⟨trivial, ?_, h1.2⟩; replace h1 := h1.1; intro x hxm; have hi := hbi.hi x hxm; have lo := hbi.lo x hxm; (try dsimp only at h1); (repeat' first | (guard_hyp h1 : _ ∨ _; refine Or.elim h1 (fun h1 => ?_) (fun h1 => ?_)) | (guard_hyp h1 : _ ∧ _; have hx := h1.2; replace h1 := h1.1)) <;> first | contradiction | omega | exact hx.1 x hxm))⟩
 ·intro σ β w1 hE1 hbi hk
  have hz1 := hE1.size
  obtain ⟨_, hv152, a152, cap152, rfl, hts152⟩ := kn hk 9 rfl rfl
  have hts152 := hts152.lt
  have hlen152 := hts152.len
  refine ⟨[(37, .slice a152 (([qd1, qd6]).length) cap152)], (ag hv152 (agree_nil _)), ?_⟩
  refine WL.call rfl rfl rfl Ty.ent19 (node11_ok _ _ 4 _ _ ([qd1, qd6]) hts152) ?_
  rintro _ w155 ⟨l153, rfl, hr153, hE154⟩
  have hzhE154 := hE154.size
  refine ⟨_, rfl, ?_⟩
  have hn153 := hr153.lt
  obtain ⟨a153, cap153, rfl, hts153, hlen153⟩ := hn153.op2
  exact dqE hbi hE154 ⟨_, rfl, (hr153.lt.dom (by intro k h1; refine ⟨trivial, ?_, h1.2⟩; replace h1 := h1.1; intro x hxm; have hi := hbi.hi x hxm; have lo := hbi.lo x hxm; (try dsimp only at h1); (repeat' first | (guard_hyp h1 : _ ∨ _; refine Or.elim h1 (fun h1 => ?_) (fun h1 => ?_)) | (guard_hyp h1 : _ ∧ _; have hx := h1.2; replace h1 := h1.1)) <;> first | contradiction | omega | exact hx.1 x hxm))⟩
 ·intro σ β w1 hE1 hbi hk
  refine ⟨[], (agree_nil _), ?_⟩
  refine WL.load_box rfl rfl rfl (h121.ext hE1) Ty.agg30 ?_
  exact dq hbi rfl
 ·intro σ β w1 hE1 hbi hk
  have hz1 := hE1.size
  refine ⟨[(39, .agg (tcells qd1 (.slice a1 qd1.subs.length cap1)).toArray)], (ak hk 11 (agree_nil _)), ?_⟩
  refine WL.call rfl rfl rfl Ty.ent18 (rep11_ok _ _ _ qd1 0 1 (h118.ext hE1)) ?_
  rintro _ w155 ⟨l153, rfl, hr153, hE154⟩
  have hzhE154 := hE154.size
  refine ⟨_, rfl, ?_⟩
  have hn153 := hr153.lt
  obtain ⟨a153, cap153, rfl, hts153, hlen153⟩ := hn153.op2
  exact dqE hbi hE154 ⟨_, rfl, (hr153.lt.dom (by intro k h1; refine ⟨trivial, ?_, h1.2⟩; replace h1 := h1.1; intro x hxm; have hi := hbi.hi x hxm; have lo := hbi.lo x hxm; (try dsimp only at h1); (repeat' first | (guard_hyp h1 : _ ∨ _; refine Or.elim h1 (fun h1 => ?_) (fun h1 => ?_)) | (guard_hyp h1 : _ ∧ _; have hx := h1.2; replace h1 := h1.1)) <;> first | contradiction | omega | exact hx.1 x hxm))⟩
 ·intro σ β w1 hE1 hbi hk
  have hz1 := hE1.size
  obtain ⟨_, hv152, l152, rfl, hn152⟩ := kn hk 10 rfl rfl
  have hn152 := hn152.lt
  obtain ⟨a152, cap152, rfl, hts152, hlen152⟩ := hn152.op2
  obtain ⟨_, hv153, l153, rfl, hn153⟩ := kn hk 12 rfl rfl
  have hn153 := hn153.lt
  obtain ⟨a153, cap153, rfl, hts153, hlen153⟩ := hn153.op2
  refine ⟨[(38, .agg (tcells qd14 (.slice a152 qd14.subs.length cap152)).toArray), (40, .agg (tcells qd7 (.slice a153 qd7.subs.length cap153)).toArray)], (ag hv152 (ag hv153 (agree_nil _))), ?_⟩
  refine WL.build (l := (tcells qd14 (.slice a152 qd14.subs.length cap152) ++ tcells qd7 (.slice a153 qd7.subs.length cap153))) rfl rfl Ty.zero46 Ty.st46 ⟨⟨rfl, rfl⟩, (by kernel_rfl)⟩ ?_
  exact dq hbi ⟨(tcells qd14 (.slice a152 qd14.subs.length cap152)), (tcells qd7 (.slice a153 qd7.subs.length cap153)), rfl, (hn152.lt.dom (by intro k h1; refine ⟨trivial, ?_, h1.2⟩; replace h1 := h1.1; intro x hxm; have hi := hbi.hi x hxm; have lo := hbi.lo x hxm; (try dsimp only at h1); (repeat' first | (guard_hyp h1 : _ ∨ _; refine Or.elim h1 (fun h1 => ?_) (fun h1 => ?_)) | (guard_hyp h1 : _ ∧ _; have hx := h1.2; replace h1 := h1.1)) <;> first | contradiction | omega | exact hx.1 x hxm)), (hn153.lt.dom (by intro k h1; refine ⟨trivial, ?_, h1.2⟩; replace h1 := h1.1; intro x hxm; have hi := hbi.hi x hxm; have lo := hbi.lo x hxm; (try dsimp only at h1); (repeat' first | (guard_hyp h1 : _ ∨ _; refine Or.elim h1 (fun h1 => ?_) (fun h1 => ?_)) | (guard_hyp h1 : _ ∧ _; have hx := h1.2; replace h1 := h1.1)) <;> first | contradiction | omega | exact hx.1 x hxm))⟩
 ·intro σ β w1 hE1 hbi hk
  refine ⟨[], (agree_nil _), ?_⟩
  refine WL.load_box rfl rfl rfl (h126.ext hE1) Ty.agg30 ?_
  exact dq hbi rfl
 ·intro σ β w1 hE1 hbi hk
  have hz1 := hE1.size
  refine ⟨[(42, .agg (tcells qd10 (.slice a40 qd10.subs.length cap40)).toArray)], (ak hk 14 (agree_nil _)), ?_⟩
  refine WL.call rfl rfl rfl Ty.ent18 (rep11_ok _ _ _ qd10 1 (-1) (h127.ext hE1)) ?_
  rintro _ w155 ⟨l153, rfl, hr153, hE154⟩
  have hzhE154 := hE154.size
  refine ⟨_, rfl, ?_⟩
  have hn153 := hr153.lt
  obtain ⟨a153, cap153, rfl, hts153, hlen153⟩ := hn153.op2
  exact dqE hbi hE154 ⟨_, rfl, (hr153.lt.dom (by intro k h1; refine ⟨trivial, ?_, h1.2⟩; replace h1 := h1.1; intro x hxm; have hi := hbi.hi x hxm; have lo := hbi.lo x hxm; (try dsimp only at h1); (repeat' first | (guard_hyp h1 : _ ∨ _; refine Or.elim h1 (fun h1 => ?_) (fun h1 => ?_)) | (guard_hyp h1 : _ ∧ _; have hx := h1.2; replace h1 := h1.1)) <;> first | contradiction | omega | exact hx.1 x hxm))⟩
 ·intro σ β w1 hE1 hbi hk
  refine ⟨[], (agree_nil _), ?_⟩
  refine WL.load_box rfl rfl rfl (h126.ext hE1) Ty.agg30 ?_
  exact dq hbi rfl
 ·intro σ β w1 hE1 hbi hk
  have hz1 := hE1.size
  obtain ⟨_, hv152, l152, rfl, hn152⟩ := kn hk 15 rfl rfl
  have hn152 := hn152.lt
  obtain ⟨a152, cap152, rfl, hts152, hlen152⟩ := hn152.op2
  refine ⟨[(43, .agg (tcells qd13 (.slice a152 qd13.subs.length cap152)).toArray), (44, .agg (tcells qd10 (.slice a40 qd10.subs.length cap40)).toArray)], (ag hv152 (ak hk 16 (agree_nil _))), ?_⟩
  refine WL.build (l := (tcells qd13 (.slice a152 qd13.subs.length cap152) ++ tcells qd10 (.slice a40 qd10.subs.length cap40))) rfl rfl Ty.zero46 Ty.st46 ⟨⟨rfl, rfl⟩, (by kernel_rfl)⟩ ?_
  exact dq hbi ⟨(tcells qd13 (.slice a152 qd13.subs.length cap152)), (tcells qd10 (.slice a40 qd10.subs.length cap40)), rfl, (hn152.lt.dom (by intro k h1; refine ⟨trivial, ?_, h1.2⟩; replace h1 := h1.1; intro x hxm; have hi := hbi.hi x hxm; have lo := hbi.lo x hxm; (try dsimp only at h1); (repeat' first | (guard_hyp h1 : _ ∨ _; refine Or.elim h1 (fun h1 => ?_) (fun h1 => ?_)) | (guard_hyp h1 : _ ∧ _; have hx := h1.2; replace h1 := h1.1)) <;> first | contradiction | omega | exact hx.1 x hxm)), ((h127.ext hE1).lt.dom (by intro k h1; refine ⟨trivial, ?_, h1.2⟩; replace h1 := h1.1; intro x hxm; have hi := hbi.hi x hxm; have lo := hbi.lo x hxm; (try dsimp only at h1); (repeat' first | (guard_hyp h1 : _ ∨ _; refine Or.elim h1 (fun h1 => ?_) (fun h1 => ?_)) | (guard_hyp h1 : _ ∧ _; have hx := h1.2; replace h1 := h1.1)) <;> first | contradiction | omega | exact hx.1 x hxm))⟩
 ·intro σ β w1 hE1 hbi hk
  refine ⟨[], (agree_nil _), ?_⟩
  refine WL.load_box rfl rfl rfl (h122.ext hE1) Ty.agg30 ?_
  exact dq hbi rfl
 ·intro σ β w1 hE1 hbi hk
  have hz1 := hE1.size
  refine ⟨[(46, .agg (tcells qd2 (.slice a4 qd2.subs.length cap4)).toArray)], (ak hk 18 (agree_nil _)), ?_⟩
  refine WL.call rfl rfl rfl Ty.ent18 (rep11_ok _ _ _ qd2 0 (-1) (h123.ext hE1)) ?_
  rintro _ w155 ⟨l153, rfl, hr153, hE154⟩
  have hzhE154 := hE154.size
  refine ⟨_, rfl, ?_⟩
  have hn153 := hr153.lt
  obtain ⟨a153, cap153, rfl, hts153, hlen153⟩ := hn153.op2
  exact dqE hbi hE154 ⟨_, rfl, (hr153.lt.dom (by intro k h1; refine ⟨trivial, ?_, h1.2⟩; replace h1 := h1.1; intro x hxm; have hi := hbi.hi x hxm; have lo := hbi.lo x hxm; (try dsimp only at h1); (repeat' first | (guard_hyp h1 : _ ∨ _; refine Or.elim h1 (fun h1 => ?_) (fun h1 => ?_)) | (guard_hyp h1 : _ ∧ _; have hx := h1.2; replace h1 := h1.1)) <;> first | contradiction | omega | exact hx.1 x hxm))⟩
 ·intro σ β w1 hE1 hbi hk
  refine ⟨[], (agree_nil _), ?_⟩
  refine WL.load_box rfl rfl rfl (h121.ext hE1) Ty.agg30 ?_
  exact dq hbi rfl
 ·intro σ β w1 hE1 hbi hk
  have hz1 := hE1.size
  obtain ⟨_, hv152, l152, rfl, hn152⟩ := kn hk 19 rfl rfl
  have hn152 := hn152.lt
  obtain ⟨a152, cap152, rfl, hts152, hlen152⟩ := hn152.op2
  refine ⟨[(47, .agg (tcells qd11 (.slice a152 qd11.subs.length cap152)).toArray), (48, .agg (tcells qd1 (.slice a1 qd1.subs.length cap1)).toArray)], (ag hv152 (ak hk 20 (agree_nil _))), ?_⟩
  refine WL.buildSlice (vs := [.agg (tcells qd11 (.slice a152 qd11.subs.length cap152)).toArray, .agg (tcells qd1 (.slice a1 qd1.subs.length cap1)).toArray]) (cells := (tcells qd11 (.slice a152 qd11.subs.length cap152) ++ tcells qd1 (.slice a1 qd1.subs.length cap1))) rfl rfl Ty.slice24 Ty.zero30 rfl rfl rfl rfl rfl rfl (fun b154 w159 hb155 hE158 hs156 hR157 => ?_)
  have hts154 := (NodesV.lit (n := 2) (ts := [qd11, qd1]) hR157 (RowsL.cons (hn152.ext hE158) (RowsL.cons ((h118.ext hE1).ext hE158) (RowsL.nil' _))) rfl rfl (by decide)).lt
  exact dqE hbi hE158 ⟨_, _, rfl, (hts154.dom (by intro k h1; refine ⟨trivial, ?_, h1.2⟩; replace h1 := h1.1; intro x hxm; have hi := hbi.hi x hxm; have lo := hbi.lo x hxm; (try dsimp only at h1); (repeat' first | (guard_hyp h1 : _ ∨ _; refine Or.elim h1 (fun h1 => ?_) (fun h1 => ?_)) | (guard_hyp h1 : _ ∧ _; have hx := h1.2; replace h1 := h1.1)) <;> first | contradiction | omega | exact hx.1 x hxm))⟩
 ·intro σ β w1 hE1 hbi hk
  have hz1 := hE1.size
  obtain ⟨_, hv152, a152, cap152, rfl, hts152⟩ := kn hk 21 rfl rfl
  have hts152 := hts152.lt
  have hlen152 := hts152.len
  refine ⟨[(49, .slice a152 (([qd11, qd1]).length) cap152)], (ag hv152 (agree_nil _)), ?_⟩
  refine WL.call rfl rfl rfl Ty.ent19 (node11_ok _ _ 4 _ _ ([qd11, qd1]) hts152) ?_
  rintro _ w155 ⟨l153, rfl, hr153, hE154⟩
  have hzhE154 := hE154.size
  refine ⟨_, rfl, ?_⟩
  have hn153 := hr153.lt
  obtain ⟨a153, cap153, rfl, hts153, hlen153⟩ := hn153.op2
  exact dqE hbi hE154 ⟨_, rfl, (hr153.lt.dom (by intro k h1; refine ⟨trivial, ?_, h1.2⟩; replace h1 := h1.1; intro x hxm; have hi := hbi.hi x hxm; have lo := hbi.lo x hxm; (try dsimp only at h1); (repeat' first | (guard_hyp h1 : _ ∨ _; refine Or.elim h1 (fun h1 => ?_) (fun h1 => ?_)) | (guard_hyp h1 : _ ∧ _; have hx := h1.2; replace h1 := h1.1)) <;> first | contradiction | omega | exact hx.1 x hxm))⟩
 ·intro σ β w1 hE1 hbi hk
  have hz1 := hE1.size
  obtain ⟨_, hv152, l152, rfl, hn152⟩ := kn hk 22 rfl rfl
  have hn152 := hn152.lt
  obtain ⟨a152, cap152, rfl, hts152, hlen152⟩ := hn152.op2
  refine ⟨[(50, .agg (tcells qd18 (.slice a152 qd18.subs.length cap152)).toArray)], (ag hv152 (agree_nil _)), ?_⟩
  refine WL.call rfl rfl rfl Ty.ent18 (rep11_ok _ _ _ qd18 0 1 hn152) ?_
  rintro _ w155 ⟨l153, rfl, hr153, hE154⟩
  have hzhE154 := hE154.size
  refine ⟨_, rfl, ?_⟩
  have hn153 := hr153.lt
  obtain ⟨a153, cap153, rfl, hts153, hlen153⟩ := hn153.op2
  exact dqE hbi hE154 ⟨_, rfl, (hr153.lt.dom (by intro k h1; refine ⟨trivial, ?_, h1.2⟩; replace h1 := h1.1; intro x hxm; have hi := hbi.hi x hxm; have lo := hbi.lo x hxm; (try dsimp only at h1); (repeat' first | (guard_hyp h1 : _ ∨ _; refine Or.elim h1 (fun h1 => ?_) (fun h1 => ?_)) | (guard_hyp h1 : _ ∧ _; have hx := h1.2; replace h1 := h1.1)) <;> first | contradiction | omega | exact hx.1 x hxm))⟩
 ·intro σ β w1 hE1 hbi hk
  refine ⟨[], (agree_nil _), ?_⟩
  refine WL.load_box rfl rfl rfl (h121.ext hE1) Ty.agg30 ?_
  exact dq hbi rfl
 ·intro σ β w1 hE1 hbi hk
  refine ⟨[], (agree_nil _), ?_⟩
  refine WL.load_box rfl rfl rfl (h122.ext hE1) Ty.agg30 ?_
  exact dq hbi rfl
 ·intro σ β w1 hE1 hbi hk
  have hz1 := hE1.size
  refine ⟨[(53, .agg (tcells qd2 (.slice a4 qd2.subs.length cap4)).toArray)], (ak hk 25 (agree_nil _)), ?_⟩
  refine WL.call rfl rfl rfl Ty.ent18 (rep11_ok _ _ _ qd2 0 (-1) (h123.ext hE1)) ?_
  rintro _ w155 ⟨l153, rfl, hr153, hE154⟩
  have hzhE154 := hE154.size
  refine ⟨_, rfl, ?_⟩
  have hn153 := hr153.lt
  obtain ⟨a153, cap153, rfl, hts153, hlen153⟩ := hn153.op2
  exact dqE hbi hE154 ⟨_, rfl, (hr153.lt.dom (by intro k h1; refine ⟨trivial, ?_, h1.2⟩; replace h1 := h1.1; intro x hxm; have hi := hbi.hi x hxm; have lo := hbi.lo x hxm; (try dsimp only at h1); (repeat' first | (guard_hyp h1 : _ ∨ _; refine Or.elim h1 (fun h1 => ?_) (fun h1 => ?_)) | (guard_hyp h1 : _ ∧ _; have hx := h1.2; replace h1 := h1.1)) <;> first | contradiction | omega | exact hx.1 x hxm))⟩
 ·intro σ β w1 hE1 hbi hk
  have hz1 := hE1.size
  obtain ⟨_, hv153, l153, rfl, hn153⟩ := kn hk 26 rfl rfl
  have hn153 := hn153.lt
  obtain ⟨a153, cap153, rfl, hts153, hlen153⟩ := hn153.op2
  refine ⟨[(52, .agg (tcells qd1 (.slice a1 qd1.subs.length cap1)).toArray), (54, .agg (tcells qd11 (.slice a153 qd11.subs.length cap153)).toArray)], (ak hk 24 (ag hv153 (agree_nil _))), ?_⟩
  refine WL.buildSlice (vs := [.agg (tcells qd1 (.slice a1 qd1.subs.length cap1)).toArray, .agg (tcells qd11 (.slice a153 qd11.subs.length cap153)).toArray]) (cells := (tcells qd1 (.slice a1 qd1.subs.length cap1) ++ tcells qd11 (.slice a153 qd11.subs.length cap153))) rfl rfl Ty.slice24 Ty.zero30 rfl rfl rfl rfl rfl rfl (fun b154 w159 hb155 hE158 hs156 hR157 => ?_)
  have hts154 := (NodesV.lit (n := 2) (ts := [qd1, qd11]) hR157 (RowsL.cons ((h118.ext hE1).ext hE158) (RowsL.cons (hn153.ext hE158) (RowsL.nil' _))) rfl rfl (by decide)).lt
  exact dqE hbi hE158 ⟨_, _, rfl, (hts154.dom (by intro k h1; refine ⟨trivial, ?_, h1.2⟩; replace h1 := h1.1; intro x hxm; have hi := hbi.hi x hxm; have lo := hbi.lo x hxm; (try dsimp only at h1); (repeat' first | (guard_hyp h1 : _ ∨ _; refine Or.elim h1 (fun h1 => ?_) (fun h1 => ?_)) | (guard_hyp h1 : _ ∧ _; have hx := h1.2; replace h1 := h1.1)) <;> first | contradiction | omega | exact hx.1 x hxm))⟩
 ·intro σ β w1 hE1 hbi hk
  have hz1 := hE1.size
  obtain ⟨_, hv152, a152, cap152, rfl, hts152⟩ := kn hk 27 rfl rfl
  have hts152 := hts152.lt
  have hlen152 := hts152.len
  refine ⟨[(55, .slice a152 (([qd1, qd11]).length) cap152)], (ag hv152 (agree_nil _)), ?_⟩
  refine WL.call rfl rfl rfl Ty.ent19 (node11_ok _ _ 4 _ _ ([qd1, qd11]) hts152) ?_
  rintro _ w155 ⟨l153, rfl, hr153, hE154⟩
  have hzhE154 := hE154.size
  refine ⟨_, rfl, ?_⟩
  have hn153 := hr153.lt
  obtain ⟨a153, cap153, rfl, hts153, hlen153⟩ := hn153.op2
  exact dqE hbi hE154 ⟨_, rfl, (hr153.lt.dom (by intro k h1; refine ⟨trivial, ?_, h1.2⟩; replace h1 := h1.1; intro x hxm; have hi := hbi.hi x hxm; have lo := hbi.lo x hxm; (try dsimp only at h1); (repeat' first | (guard_hyp h1 : _ ∨ _; refine Or.elim h1 (fun h1 => ?_) (fun h1 => ?_)) | (guard_hyp h1 : _ ∧ _; have hx := h1.2; replace h1 := h1.1)) <;> first | contradiction | omega | exact hx.1 x hxm))⟩
 ·intro σ β w1 hE1 hbi hk
  have hz1 := hE1.size
  obtain ⟨_, hv152, l152, rfl, hn152⟩ := kn hk 23 rfl rfl
  have hn152 := hn152.lt
  obtain ⟨a152, cap152, rfl, hts152, hlen152⟩ := hn152.op2
  obtain ⟨_, hv153, l153, rfl, hn153⟩ := kn hk 28 rfl rfl
  have hn153 := hn153.lt
  obtain ⟨a153, cap153, rfl, hts153, hlen153⟩ := hn153.op2
  refine ⟨[(51, .agg (tcells qd19 (.slice a152 qd19.subs.length cap152)).toArray), (56, .agg (tcells qd20 (.slice a153 qd20.subs.length cap153)).toArray)], (ag hv152 (ag hv153 (agree_nil _))), ?_⟩
  refine WL.build (l := (tcells qd19 (.slice a152 qd19.subs.length cap152) ++ tcells qd20 (.slice a153 qd20.subs.length cap153))) rfl rfl Ty.zero46 Ty.st46 ⟨⟨rfl, rfl⟩, (by kernel_rfl)⟩ ?_
  exact dq hbi ⟨(tcells qd19 (.slice a152 qd19.subs.length cap152)), (tcells qd20 (.slice a153 qd20.subs.length cap153)), rfl, (hn152.lt.dom (by intro k h1; refine ⟨trivial, ?_, h1.2⟩; replace h1 := h1.1; intro x hxm; have hi := hbi.hi x hxm; have lo := hbi.lo x hxm; (try dsimp only at h1); (repeat' first | (guard_hyp h1 : _ ∨ _; refine Or.elim h1 (fun h1 => ?_) (fun h1 => ?_)) | (guard_hyp h1 : _ ∧ _; have hx := h1.2; replace h1 := h1.1)) <;> first | contradiction | omega | exact hx.1 x hxm)), (hn153.lt.dom (by intro k h1; refine ⟨trivial, ?_, h1.2⟩; replace h1 := h1.1; intro x hxm; have hi := hbi.hi x hxm; have lo := hbi.lo x hxm; (try dsimp only at h1); (repeat' first | (guard_hyp h1 : _ ∨ _; refine Or.elim h1 (fun h1 => ?_) (fun h1 => ?_)) | (guard_hyp h1 : _ ∧ _; have hx := h1.2; replace h1 := h1.1)) <;> first | contradiction | omega | exact hx.1 x hxm))⟩
 ·intro σ β w1 hE1 hbi hk
  refine ⟨[], (agree_nil _), ?_⟩
  refine WL.load_box rfl rfl rfl (h121.ext hE1) Ty.agg30 ?_
  exact dq hbi rfl
 ·intro σ β w1 hE1 hbi hk
  refine ⟨[], (agree_nil _), ?_⟩
  refine WL.load_box rfl rfl rfl (h126.ext hE1) Ty.agg30 ?_
  exact dq hbi rfl
 ·intro σ β w1 hE1 hbi hk
  refine ⟨[], (agree_nil _), ?_⟩
  refine WL.load_box rfl rfl rfl (h122.ext hE1) Ty.agg30 ?_
  exact dq hbi rfl
 ·intro σ β w1 hE1 hbi hk
  have hz1 := hE1.size
  refine ⟨[(58, .agg (tcells qd1 (.slice a1 qd1.subs.length cap1)).toArray), (59, .agg (tcells qd10 (.slice a40 qd10.subs.length cap40)).toArray), (60, .agg (tcells qd2 (.slice a4 qd2.subs.length cap4)).toArray)], (ak hk 30 (ak hk 31 (ak hk 32 (agree_nil _)))), ?_⟩
  refine WL.buildSlice (vs := [.agg (tcells qd1 (.slice a1 qd1.subs.length cap1)).toArray, .agg (tcells qd10 (.slice a40 qd10.subs.length cap40)).toArray, .agg (tcells qd2 (.slice a4 qd2.subs.length cap4)).toArray]) (cells := (tcells qd1 (.slice a1 qd1.subs.length cap1) ++ tcells qd10 (.slice a40 qd10.subs.length cap40) ++ tcells qd2 (.slice a4 qd2.subs.length cap4))) rfl rfl Ty.slice24 Ty.zero30 rfl rfl rfl rfl rfl rfl (fun b155 w160 hb156 hE159 hs157 hR158 => ?_)
  have hts155 := (NodesV.lit (n := 3) (ts := [qd1, qd10, qd2]) hR158 (RowsL.cons ((h118.ext hE1).ext hE159) (RowsL.cons ((h127.ext hE1).ext hE159) (RowsL.cons ((h123.ext hE1).ext hE159) (RowsL.nil' _)))) rfl rfl (by decide)).lt
  exact dqE hbi hE159 ⟨_, _, rfl, (hts155.dom (by intro k h1; refine ⟨trivial, ?_, h1.2⟩; replace h1 := h1.1; intro x hxm; have hi := hbi.hi x hxm; have lo := hbi.lo x hxm; (try dsimp only at h1); (repeat' first | (guard_hyp h1 : _ ∨ _; refine Or.elim h1 (fun h1 => ?_) (fun h1 => ?_)) | (guard_hyp h1 : _ ∧ _; have hx := h1.2; replace h1 := h1.1)) <;> first | contradiction | omega | exact hx.1 x hxm))⟩
 ·intro σ β w1 hE1 hbi hk
  have hz1 := hE1.size
  obtain ⟨_, hv152, a152, cap152, rfl, hts152⟩ := kn hk 33 rfl rfl
  have hts152 := hts152.lt
  have hlen152 := hts152.len
  refine ⟨[(61, .slice a152 (([qd1, qd10, qd2]).length) cap152)], (ag hv152 (agree_nil _)), ?_⟩
  refine WL.call rfl rfl rfl Ty.ent19 (node11_ok _ _ 3 _ _ ([qd1, qd10, qd2]) hts152) ?_
  rintro _ w155 ⟨l153, rfl, hr153, hE154⟩
  have hzhE154 := hE154.size
  refine ⟨_, rfl, ?_⟩
  have hn153 := hr153.lt
  obtain ⟨a153, cap153, rfl, hts153, hlen153⟩ := hn153.op2
  exact dqE hbi hE154 ⟨_, rfl, (hr153.lt.dom (by intro k h1; refine ⟨trivial, ?_, h1.2⟩; replace h1 := h1.1; intro x hxm; have hi := hbi.hi x hxm; have lo := hbi.lo x hxm; (try dsimp only at h1); (repeat' first | (guard_hyp h1 : _ ∨ _; refine Or.elim h1 (fun h1 => ?_) (fun h1 => ?_)) | (guard_hyp h1 : _ ∧ _; have hx := h1.2; replace h1 := h1.1)) <;> first | contradiction | omega | exact hx.1 x hxm))⟩
 ·intro σ β w1 hE1 hbi hk
  refine ⟨[], (agree_nil _), ?_⟩
  refine WL.load_box rfl rfl rfl (h121.ext hE1) Ty.agg30 ?_
  exact dq hbi rfl
 ·intro σ β w1 hE1 hbi hk
  have hz1 := hE1.size
  refine ⟨[(63, .agg (tcells qd1 (.slice a1 qd1.subs.length cap1)).toArray)], (ak hk 35 (agree_nil _)), ?_⟩
  refine WL.call rfl rfl rfl Ty.ent18 (rep11_ok _ _ _ qd1 1 (-1) (h118.ext hE1)) ?_
  rintro _ w155 ⟨l153, rfl, hr153, hE154⟩
  have hzhE154 := hE154.size
  refine ⟨_, rfl, ?_⟩
  have hn153 := hr153.lt
  obtain ⟨a153, cap153, rfl, hts153, hlen153⟩ := hn153.op2
  exact dqE hbi hE154 ⟨_, rfl, (hr153.lt.dom (by intro k h1; refine ⟨trivial, ?_, h1.2⟩; replace h1 := h1.1; intro x hxm; have hi := hbi.hi x hxm; have lo := hbi.lo x hxm; (try dsimp only at h1); (repeat' first | (guard_hyp h1 : _ ∨ _; refine Or.elim h1 (fun h1 => ?_) (fun h1 => ?_)) | (guard_hyp h1 : _ ∧ _; have hx := h1.2; replace h1 := h1.1)) <;> first | contradiction | omega | exact hx.1 x hxm))⟩
 ·intro σ β w1 hE1 hbi hk
  refine ⟨[], (agree_nil _), ?_⟩
  refine WL.load_box rfl rfl rfl (h122.ext hE1) Ty.agg30 ?_
  exact dq hbi rfl
 ·intro σ β w1 hE1 hbi hk
  have hz1 := hE1.size
  obtain ⟨_, hv152, l152, rfl, hn152⟩ := kn hk 36 rfl rfl
  have hn152 := hn152.lt
  obtain ⟨a152, cap152, rfl, hts152, hlen152⟩ := hn152.op2
  refine ⟨[(64, .agg (tcells qd12 (.slice a152 qd12.subs.length cap152)).toArray), (65, .agg (tcells qd2 (.slice a4 qd2.subs.length cap4)).toArray)], (ag hv152 (ak hk 37 (agree_nil _))), ?_⟩
  refine WL.buildSlice (vs := [.agg (tcells qd12 (.slice a152 qd12.subs.length cap152)).toArray, .agg (tcells qd2 (.slice a4 qd2.subs.length cap4)).toArray]) (cells := (tcells qd12 (.slice a152 qd12.subs.length cap152) ++ tcells qd2 (.slice a4 qd2.subs.length cap4))) rfl rfl Ty.slice24 Ty.zero30 rfl rfl rfl rfl rfl rfl (fun b154 w159 hb155 hE158 hs156 hR157 => ?_)
  have hts154 := (NodesV.lit (n := 2) (ts := [qd12, qd2]) hR157 (RowsL.cons (hn152.ext hE158) (RowsL.cons ((h123.ext hE1).ext hE158) (RowsL.nil' _))) rfl rfl (by decide)).lt
  exact dqE hbi hE158 ⟨_, _, rfl, (hts154.dom (by intro k h1; refine ⟨trivial, ?_, h1.2⟩; replace h1 := h1.1; intro x hxm; have hi := hbi.hi x hxm; have lo := hbi.lo x hxm; (try dsimp only at h1); (repeat' first | (guard_hyp h1 : _ ∨ _; refine Or.elim h1 (fun h1 => ?_) (fun h1 => ?_)) | (guard_hyp h1 : _ ∧ _; have hx := h1.2; replace h1 := h1.1)) <;> first | contradiction | omega | exact hx.1 x hxm))⟩
 ·intro σ β w1 hE1 hbi hk
  have hz1 := hE1.size
  obtain ⟨_, hv152, a152, cap152, rfl, hts152⟩ := kn hk 38 rfl rfl
  have hts152 := hts152.lt
  have hlen152 := hts152.len
  refine ⟨[(66, .slice a152 (([qd12, qd2]).length) cap152)], (ag hv152 (agree_nil _)), ?_⟩
  refine WL.call rfl rfl rfl Ty.ent19 (node11_ok _ _ 3 _ _ ([qd12, qd2]) hts152) ?_
  rintro _ w155 ⟨l153, rfl, hr153, hE154⟩
  have hzhE154 := hE154.size
  refine ⟨_, rfl, ?_⟩
  have hn153 := hr153.lt
  obtain ⟨a153, cap153, rfl, hts153, hlen153⟩ := hn153.op2
  exact dqE hbi hE154 ⟨_, rfl, (hr153.lt.dom (by intro k h1; refine ⟨trivial, ?_, h1.2⟩; replace h1 := h1.1; intro x hxm; have hi := hbi.hi x hxm; have lo := hbi.lo x hxm; (try dsimp only at h1); (repeat' first | (guard_hyp h1 : _ ∨ _; refine Or.elim h1 (fun h1 => ?_) (fun h1 => ?_)) | (guard_hyp h1 : _ ∧ _; have hx := h1.2; replace h1 := h1.1)) <;> first | contradiction | omega | exact hx.1 x hxm))⟩
 ·intro σ β w1 hE1 hbi hk
  have hz1 := hE1.size
  obtain ⟨_, hv152, l152, rfl, hn152⟩ := kn hk 34 rfl rfl
  have hn152 := hn152.lt
  obtain ⟨a152, cap152, rfl, hts152, hlen152⟩ := hn152.op2
  obtain ⟨_, hv153, l153, rfl, hn153⟩ := kn hk 39 rfl rfl
  have hn153 := hn153.lt
  obtain ⟨a153, cap153, rfl, hts153, hlen153⟩ := hn153.op2
  refine ⟨[(62, .agg (tcells qd27 (.slice a152 qd27.subs.length cap152)).toArray), (67, .agg (tcells qd21 (.slice a153 qd21.subs.length cap153)).toArray)], (ag hv152 (ag hv153 (agree_nil _))), ?_⟩
  refine WL.build (l := (tcells qd27 (.slice a152 qd27.subs.length cap152) ++ tcells qd21 (.slice a153 qd21.subs.length cap153))) rfl rfl Ty.zero46 Ty.st46 ⟨⟨rfl, rfl⟩, (by kernel_rfl)⟩ ?_
  exact dq hbi ⟨(tcells qd27 (.slice a152 qd27.subs.length cap152)), (tcells qd21 (.slice a153 qd21.subs.length cap153)), rfl, (hn152.lt.dom (by intro k h1; refine ⟨trivial, ?_, h1.2⟩; replace h1 := h1.1; intro x hxm; have hi := hbi.hi x hxm; have lo := hbi.lo x hxm; (try dsimp only at h1); (repeat' first | (guard_hyp h1 : _ ∨ _; refine Or.elim h1 (fun h1 => ?_) (fun h1 => ?_)) | (guard_hyp h1 : _ ∧ _; have hx := h1.2; replace h1 := h1.1)) <;> first | contradiction | omega | exact hx.1 x hxm)), (hn153.lt.dom (by intro k h1; refine ⟨trivial, ?_, h1.2⟩; replace h1 := h1.1; intro x hxm; have hi := hbi.hi x hxm; have lo := hbi.lo x hxm; (try dsimp only at h1); (repeat' first | (guard_hyp h1 : _ ∨ _; refine Or.elim h1 (fun h1 => ?_) (fun h1 => ?_)) | (guard_hyp h1 : _ ∧ _; have hx := h1.2; replace h1 := h1.1)) <;> first | contradiction | omega | exact hx.1 x hxm))⟩
 ·intro σ β w1 hE1 hbi hk
  refine ⟨[], (agree_nil _), ?_⟩
  refine WL.load_box rfl rfl rfl (hR115.ext hE1) Ty.agg30 ?_
  exact dq hbi rfl
 ·intro σ β w1 hE1 hbi hk
  refine ⟨[], (agree_nil _), ?_⟩
  refine WL.load_box rfl rfl rfl (h122.ext hE1) Ty.agg30 ?_
  exact dq hbi rfl
 ·intro σ β w1 hE1 hbi hk
  refine ⟨[], (agree_nil _), ?_⟩
  refine WL.load_box rfl rfl rfl (h122.ext hE1) Ty.agg30 ?_
  exact dq hbi rfl
 ·intro σ β w1 hE1 hbi hk
  have hz1 := hE1.size
  refine ⟨[(69, .agg (tcells qd9 (.slice a106 qd9.subs.length cap106)).toArray), (70, .agg (tcells qd2 (.slice a4 qd2.subs.length cap4)).toArray), (71, .agg (tcells qd2 (.slice a4 qd2.subs.length cap4)).toArray)], (ak hk 41 (ak hk 42 (ak hk 43 (agree_nil _)))), ?_⟩
  refine WL.buildSlice (vs := [.agg (tcells qd9 (.slice a106 qd9.subs.length cap106)).toArray, .agg (tcells qd2 (.slice a4 qd2.subs.length cap4)).toArray, .agg (tcells qd2 (.slice a4 qd2.subs.length cap4)).toArray]) (cells := (tcells qd9 (.slice a106 qd9.subs.length cap106) ++ tcells qd2 (.slice a4 qd2.subs.length cap4) ++ tcells qd2 (.slice a4 qd2.subs.length cap4))) rfl rfl Ty.slice24 Ty.zero30 rfl rfl rfl rfl rfl rfl (fun b155 w160 hb156 hE159 hs157 hR158 => ?_)
  have hts155 := (NodesV.lit (n := 3) (ts := [qd9, qd2, qd2]) hR158 (RowsL.cons ((h120.ext hE1).ext hE159) (RowsL.cons ((h123.ext hE1).ext hE159) (RowsL.cons ((h123.ext hE1).ext hE159) (RowsL.nil' _)))) rfl rfl (by decide)).lt
  exact dqE hbi hE159 ⟨_, _, rfl, (hts155.dom (by intro k h1; refine ⟨trivial, ?_, h1.2⟩; replace h1 := h1.1; intro x hxm; have hi := hbi.hi x hxm; have lo := hbi.lo x hxm; (try dsimp only at h1); (repeat' first | (guard_hyp h1 : _ ∨ _; refine Or.elim h1 (fun h1 => ?_) (fun h1 => ?_)) | (guard_hyp h1 : _ ∧ _; have hx := h1.2; replace h1 := h1.1)) <;> first | contradiction | omega | exact hx.1 x hxm))⟩
 ·intro σ β w1 hE1 hbi hk
  have hz1 := hE1.size
  obtain ⟨_, hv152, a152, cap152, rfl, hts152⟩ := kn hk 44 rfl rfl
  have hts152 := hts152.lt
  have hlen152 := hts152.len
  refine ⟨[(72, .slice a152 (([qd9, qd2, qd2]).length) cap152)], (ag hv152 (agree_nil _)), ?_⟩
  refine WL.call rfl rfl rfl Ty.ent19 (node11_ok _ _ 4 _ _ ([qd9, qd2, qd2]) hts152) ?_
  rintro _ w155 ⟨l153, rfl, hr153, hE154⟩
  have hzhE154 := hE154.size
  refine ⟨_, rfl, ?_⟩
  have hn153 := hr153.lt
  obtain ⟨a153, cap153, rfl, hts153, hlen153⟩ := hn153.op2
  exact dqE hbi hE154 ⟨_, rfl, (hr153.lt.dom (by intro k h1; refine ⟨trivial, ?_, h1.2⟩; replace h1 := h1.1; intro x hxm; have hi := hbi.hi x hxm; have lo := hbi.lo x hxm; (try dsimp only at h1); (repeat' first | (guard_hyp h1 : _ ∨ _; refine Or.elim h1 (fun h1 => ?_) (fun h1 => ?_)) | (guard_hyp h1 : _ ∧ _; have hx := h1.2; replace h1 := h1.1)) <;> first | contradiction | omega | exact hx.1 x hxm))⟩
 ·intro σ β w1 hE1 hbi hk
  refine ⟨[], (agree_nil _), ?_⟩
  refine WL.load_box rfl rfl rfl (hR115.ext hE1) Ty.agg30 ?_
  exact dq hbi rfl
 ·intro σ β w1 hE1 hbi hk
  refine ⟨[], (agree_nil _), ?_⟩
  refine WL.load_box rfl rfl rfl (h122.ext hE1) Ty.agg30 ?_
  exact dq hbi rfl
 ·intro σ β w1 hE1 hbi hk
  have hz1 := hE1.size
  refine ⟨[(74, .agg (tcells qd9 (.slice a106 qd9.subs.length cap106)).toArray), (75, .agg (tcells qd2 (.slice a4 qd2.subs.length cap4)).toArray)], (ak hk 46 (ak hk 47 (agree_nil _))), ?_⟩
  refine WL.buildSlice (vs := [.agg (tcells qd9 (.slice a106 qd9.subs.length cap106)).toArray, .agg (tcells qd2 (.slice a4 qd2.subs.length cap4)).toArray]) (cells := (tcells qd9 (.slice a106 qd9.subs.length cap106) ++ tcells qd2 (.slice a4 qd2.subs.length cap4))) rfl rfl Ty.slice24 Ty.zero30 rfl rfl rfl rfl rfl rfl (fun b154 w159 hb155 hE158 hs156 hR157 => ?_)
  have hts154 := (NodesV.lit (n := 2) (ts := [qd9, qd2]) hR157 (RowsL.cons ((h120.ext hE1).ext hE158) (RowsL.cons ((h123.ext hE1).ext hE158) (RowsL.nil' _))) rfl rfl (by decide)).lt
  exact dqE hbi hE158 ⟨_, _, rfl, (hts154.dom (by intro k h1; refine ⟨trivial, ?_, h1.2⟩; replace h1 := h1.1; intro x hxm; have hi := hbi.hi x hxm; have lo := hbi.lo x hxm; (try dsimp only at h1); (repeat' first | (guard_hyp h1 : _ ∨ _; refine Or.elim h1 (fun h1 => ?_) (fun h1 => ?_)) | (guard_hyp h1 : _ ∧ _; have hx := h1.2; replace h1 := h1.1)) <;> first | contradiction | omega | exact hx.1 x hxm))⟩
 ·intro σ β w1 hE1 hbi hk
  have hz1 := hE1.size
  obtain ⟨_, hv152, a152, cap152, rfl, hts152⟩ := kn hk 48 rfl rfl
  have hts152 := hts152.lt
  have hlen152 := hts152.len
  refine ⟨[(76, .slice a152 (([qd9, qd2]).length) cap152)], (ag hv152 (agree_nil _)), ?_⟩
  refine WL.call rfl rfl rfl Ty.ent19 (node11_ok _ _ 4 _ _ ([qd9, qd2]) hts152) ?_
  rintro _ w155 ⟨l153, rfl, hr153, hE154⟩
  have hzhE154 := hE154.size
  refine ⟨_, rfl, ?_⟩
  have hn153 := hr153.lt
  obtain ⟨a153, cap153, rfl, hts153, hlen153⟩ := hn153.op2
  exact dqE hbi hE154 ⟨_, rfl, (hr153.lt.dom (by intro k h1; refine ⟨trivial, ?_, h1.2⟩; replace h1 := h1.1; intro x hxm; have hi := hbi.hi x hxm; have lo := hbi.lo x hxm; (try dsimp only at h1); (repeat' first | (guard_hyp h1 : _ ∨ _; refine Or.elim h1 (fun h1 => ?_) (fun h1 => ?_)) | (guard_hyp h1 : _ ∧ _; have hx := h1.2; replace h1 := h1.1)) <;> first | contradiction | omega | exact hx.1 x hxm))⟩
 ·intro σ β w1 hE1 hbi hk
  have hz1 := hE1.size
  obtain ⟨_, hv152, l152, rfl, hn152⟩ := kn hk 45 rfl rfl
  have hn152 := hn152.lt
  obtain ⟨a152, cap152, rfl, hts152, hlen152⟩ := hn152.op2
  obtain ⟨_, hv153, l153, rfl, hn153⟩ := kn hk 49 rfl rfl
  have hn153 := hn153.lt
  obtain ⟨a153, cap153, rfl, hts153, hlen153⟩ := hn153.op2
  refine ⟨[(73, .agg (tcells qd25 (.slice a152 qd25.subs.length cap152)).toArray), (77, .agg (tcells qd15 (.slice a153 qd15.subs.length cap153)).toArray)], (ag hv152 (ag hv153 (agree_nil _))), ?_⟩
  refine WL.build (l := (tcells qd25 (.slice a152 qd25.subs.length cap152) ++ tcells qd15 (.slice a153 qd15.subs.length cap153))) rfl rfl Ty.zero46 Ty.st46 ⟨⟨rfl, rfl⟩, (by kernel_rfl)⟩ ?_
  exact dq hbi ⟨(tcells qd25 (.slice a152 qd25.subs.length cap152)), (tcells qd15 (.slice a153 qd15.subs.length cap153)), rfl, (hn152.lt.dom (by intro k h1; refine ⟨trivial, ?_, h1.2⟩; replace h1 := h1.1; intro x hxm; have hi := hbi.hi x hxm; have lo := hbi.lo x hxm; (try dsimp only at h1); (repeat' first | (guard_hyp h1 : _ ∨ _; refine Or.elim h1 (fun h1 => ?_) (fun h1 => ?_)) | (guard_hyp h1 : _ ∧ _; have hx := h1.2; replace h1 := h1.1)) <;> first | contradiction | omega | exact hx.1 x hxm)), (hn153.lt.dom (by intro k h1; refine ⟨trivial, ?_, h1.2⟩; replace h1 := h1.1; intro x hxm; have hi := hbi.hi x hxm; have lo := hbi.lo x hxm; (try dsimp only at h1); (repeat' first | (guard_hyp h1 : _ ∨ _; refine Or.elim h1 (fun h1 => ?_) (fun h1 => ?_)) | (guard_hyp h1 : _ ∧ _; have hx := h1.2; replace h1 := h1.1)) <;> first | contradiction | omega | exact hx.1 x hxm))⟩
 ·intro σ β w1 hE1 hbi hk
  refine ⟨[], (agree_nil _), ?_⟩
  refine WL.load_box rfl rfl rfl (hR115.ext hE1) Ty.agg30 ?_
  exact dq hbi rfl
 ·intro σ β w1 hE1 hbi hk
  refine ⟨[], (agree_nil _), ?_⟩
  refine WL.load_box rfl rfl rfl (h122.ext hE1) Ty.agg30 ?_
  exact dq hbi rfl
 ·intro σ β w1 hE1 hbi hk
  refine ⟨[], (agree_nil _), ?_⟩
  refine WL.call rfl rfl rfl Ty.ent12 (class11_ok _ ([99]) (by decide)) ?_
  rintro _ w154 ⟨l152, rfl, hr152, hE153⟩
  refine ⟨_, rfl, ?_⟩
  have hn152 := hr152.lt
  obtain ⟨a152, cap152, rfl, hts152, hlen152⟩ := hn152.op2
  exact dqE hbi hE153 ⟨_, rfl, (hr152.off0 hbi (fun k hk => Nat.le_trans hE1.size hk))⟩
 ·intro σ β w1 hE1 hbi hk
  have hz1 := hE1.size
  obtain ⟨_, hv154, l154, rfl, hn154⟩ := kn hk 53 rfl rfl
  have hn154 := hn154.lt
  obtain ⟨a154, cap154, rfl, hts154, hlen154⟩ := hn154.op2
  refine ⟨[(79, .agg (tcells qd9 (.slice a106 qd9.subs.length cap106)).toArray), (80, .agg (tcells qd2 (.slice a4 qd2.subs.length cap4)).toArray), (81, .agg (tcells qd3 (.slice a154 qd3.subs.length cap154)).toArray)], (ak hk 51 (ak hk 52 (ag hv154 (agree_nil _)))), ?_⟩
  refine WL.buildSlice (vs := [.agg (tcells qd9 (.slice a106 qd9.subs.length cap106)).toArray, .agg (tcells qd2 (.slice a4 qd2.subs.length cap4)).toArray, .agg (tcells qd3 (.slice a154 qd3.subs.length cap154)).toArray]) (cells := (tcells qd9 (.slice a106 qd9.subs.length cap106) ++ tcells qd2 (.slice a4 qd2.subs.length cap4) ++ tcells qd3 (.slice a154 qd3.subs.length cap154))) rfl rfl Ty.slice24 Ty.zero30 rfl rfl rfl rfl rfl rfl (fun b155 w160 hb156 hE159 hs157 hR158 => ?_)
  have hts155 := (NodesV.lit (n := 3) (ts := [qd9, qd2, qd3]) hR158 (RowsL.cons ((h120.ext hE1).ext hE159) (RowsL.cons ((h123.ext hE1).ext hE159) (RowsL.cons (hn154.ext hE159) (RowsL.nil' _)))) rfl rfl (by decide)).lt
  exact dqE hbi hE159 ⟨_, _, rfl, (hts155.dom (by intro k h1; refine ⟨trivial, ?_, h1.2⟩; replace h1 := h1.1; intro x hxm; have hi := hbi.hi x hxm; have lo := hbi.lo x hxm; (try dsimp only at h1); (repeat' first | (guard_hyp h1 : _ ∨ _; refine Or.elim h1 (fun h1 => ?_) (fun h1 => ?_)) | (guard_hyp h1 : _ ∧ _; have hx := h1.2; replace h1 := h1.1)) <;> first | contradiction | omega | exact hx.1 x hxm))⟩
 ·intro σ β w1 hE1 hbi hk
  have hz1 := hE1.size
  obtain ⟨_, hv152, a152, cap152, rfl, hts152⟩ := kn hk 54 rfl rfl
  have hts152 := hts152.lt
  have hlen152 := hts152.len
  refine ⟨[(82, .slice a152 (([qd9, qd2, qd3]).length) cap152)], (ag hv152 (agree_nil _)), ?_⟩
  refine WL.call rfl rfl rfl Ty.ent19 (node11_ok _ _ 4 _ _ ([qd9, qd2, qd3]) hts152) ?_
  rintro _ w155 ⟨l153, rfl, hr153, hE154⟩
  have hzhE154 := hE154.size
  refine ⟨_, rfl, ?_⟩
  have hn153 := hr153.lt
  obtain ⟨a153, cap153, rfl, hts153, hlen153⟩ := hn153.op2
  exact dqE hbi hE154 ⟨_, rfl, (hr153.lt.dom (by intro k h1; refine ⟨trivial, ?_, h1.2⟩; replace h1 := h1.1; intro x hxm; have hi := hbi.hi x hxm; have lo := hbi.lo x hxm; (try dsimp only at h1); (repeat' first | (guard_hyp h1 : _ ∨ _; refine Or.elim h1 (fun h1 => ?_) (fun h1 => ?_)) | (guard_hyp h1 : _ ∧ _; have hx := h1.2; replace h1 := h1.1)) <;> first | contradiction | omega | exact hx.1 x hxm))⟩
 ·intro σ β w1 hE1 hbi hk
  refine ⟨[], (agree_nil _), ?_⟩
  refine WL.load_box rfl rfl rfl (hR115.ext hE1) Ty.agg30 ?_
  exact dq hbi rfl
 ·intro σ β w1 hE1 hbi hk
  refine ⟨[], (agree_nil _), ?_⟩
  refine WL.load_box rfl rfl rfl (h122.ext hE1) Ty.agg30 ?_
  exact dq hbi rfl
 ·intro σ β w1 hE1 hbi hk
  refine ⟨[], (agree_nil _), ?_⟩
  refine WL.call rfl rfl rfl Ty.ent12 (class11_ok _ ([99]) (by decide)) ?_
  rintro _ w154 ⟨l152, rfl, hr152, hE153⟩
  refine ⟨_, rfl, ?_⟩
  have hn152 := hr152.lt
  obtain ⟨a152, cap152, rfl, hts152, hlen152⟩ := hn152.op2
  exact dqE hbi hE153 ⟨_, rfl, (hr152.off0 hbi (fun k hk => Nat.le_trans hE1.size hk))⟩
 ·intro σ β w1 hE1 hbi hk
  have hz1 := hE1.size
  obtain ⟨_, hv154, l154, rfl, hn154⟩ := kn hk 58 rfl rfl
  have hn154 := hn154.lt
  obtain ⟨a154, cap154, rfl, hts154, hlen154⟩ := hn154.op2
  refine ⟨[(84, .agg (tcells qd9 (.slice a106 qd9.subs.length cap106)).toArray), (85, .agg (tcells qd2 (.slice a4 qd2.subs.length cap4)).toArray), (86, .agg (tcells qd3 (.slice a154 qd3.subs.length cap154)).toArray)], (ak hk 56 (ak hk 57 (ag hv154 (agree_nil _)))), ?_⟩
  refine WL.buildSlice (vs := [.agg (tcells qd9 (.slice a106 qd9.subs.length cap106)).toArray, .agg (tcells qd2 (.slice a4 qd2.subs.length cap4)).toArray, .agg (tcells qd3 (.slice a154 qd3.subs.length cap154)).toArray]) (cells := (tcells qd9 (.slice a106 qd9.subs.length cap106) ++ tcells qd2 (.slice a4 qd2.subs.length cap4) ++ tcells qd3 (.slice a154 qd3.subs.length cap154))) rfl rfl Ty.slice24 Ty.zero30 rfl rfl rfl rfl rfl rfl (fun b155 w160 hb156 hE159 hs157 hR158 => ?_)
  have hts155 := (NodesV.lit (n := 3) (ts := [qd9, qd2, qd3]) hR158 (RowsL.cons ((h120.ext hE1).ext hE159) (RowsL.cons ((h123.ext hE1).ext hE159) (RowsL.cons (hn154.ext hE159) (RowsL.nil' _)))) rfl rfl (by decide)).lt
  exact dqE hbi hE159 ⟨_, _, rfl, (hts155.dom (by intro k h1; refine ⟨trivial, ?_, h1.2⟩; replace h1 := h1.1; intro x hxm; have hi := hbi.hi x hxm; have lo := hbi.lo x hxm; (try dsimp only at h1); (repeat' first | (guard_hyp h1 : _ ∨ _; refine Or.elim h1 (fun h1 => ?_) (fun h1 => ?_)) | (guard_hyp h1 : _ ∧ _; have hx := h1.2; replace h1 := h1.1)) <;> first | contradiction | omega | exact hx.1 x hxm))⟩
 ·intro σ β w1 hE1 hbi hk
  have hz1 := hE1.size
  obtain ⟨_, hv152, a152, cap152, rfl, hts152⟩ := kn hk 59 rfl rfl
  have hts152 := hts152.lt
  have hlen152 := hts152.len
  refine ⟨[(87, .slice a152 (([qd9, qd2, qd3]).length) cap152)], (ag hv152 (agree_nil _)), ?_⟩
  refine WL.call rfl rfl rfl Ty.ent19 (node11_ok _ _ 4 _ _ ([qd9, qd2, qd3]) hts152) ?_
  rintro _ w155 ⟨l153, rfl, hr153, hE154⟩
  have hzhE154 := hE154.size
  refine ⟨_, rfl, ?_⟩
  have hn153 := hr153.lt
  obtain ⟨a153, cap153, rfl, hts153, hlen153⟩ := hn153.op2
  exact dqE hbi hE154 ⟨_, rfl, (hr153.lt.dom (by intro k h1; refine ⟨trivial, ?_, h1.2⟩; replace h1 := h1.1; intro x hxm; have hi := hbi.hi x hxm; have lo := hbi.lo x hxm; (try dsimp only at h1); (repeat' first | (guard_hyp h1 : _ ∨ _; refine Or.elim h1 (fun h1 => ?_) (fun h1 => ?_)) | (guard_hyp h1 : _ ∧ _; have hx := h1.2; replace h1 := h1.1)) <;> first | contradiction | omega | exact hx.1 x hxm))⟩
 ·intro σ β w1 hE1 hbi hk
  have hz1 := hE1.size
  obtain ⟨_, hv152, l152, rfl, hn152⟩ := kn hk 55 rfl rfl
  have hn152 := hn152.lt
  obtain ⟨a152, cap152, rfl, hts152, hlen152⟩ := hn152.op2
  obtain ⟨_, hv153, l153, rfl, hn153⟩ := kn hk 60 rfl rfl
  have hn153 := hn153.lt
  obtain ⟨a153, cap153, rfl, hts153, hlen153⟩ := hn153.op2
  refine ⟨[(83, .agg (tcells qd26 (.slice a152 qd26.subs.length cap152)).toArray), (88, .agg (tcells qd26 (.slice a153 qd26.subs.length cap153)).toArray)], (ag hv152 (ag hv153 (agree_nil _))), ?_⟩
  refine WL.build (l := (tcells qd26 (.slice a152 qd26.subs.length cap152) ++ tcells qd26 (.slice a153 qd26.subs.length cap153))) rfl rfl Ty.zero46 Ty.st46 ⟨⟨rfl, rfl⟩, (by kernel_rfl)⟩ ?_
  exact dq hbi ⟨(tcells qd26 (.slice a152 qd26.subs.length cap152)), (tcells qd26 (.slice a153 qd26.subs.length cap153)), rfl, (hn152.lt.dom (by intro k h1; refine ⟨trivial, ?_, h1.2⟩; replace h1 := h1.1; intro x hxm; have hi := hbi.hi x hxm; have lo := hbi.lo x hxm; (try dsimp only at h1); (repeat' first | (guard_hyp h1 : _ ∨ _; refine Or.elim h1 (fun h1 => ?_) (fun h1 => ?_)) | (guard_hyp h1 : _ ∧ _; have hx := h1.2; replace h1 := h1.1)) <;> first | contradiction | omega | exact hx.1 x hxm)), (hn153.lt.dom (by intro k h1; refine ⟨trivial, ?_, h1.2⟩; replace h1 := h1.1; intro x hxm; have hi := hbi.hi x hxm; have lo := hbi.lo x hxm; (try dsimp only at h1); (repeat' first | (guard_hyp h1 : _ ∨ _; refine Or.elim h1 (fun h1 => ?_) (fun h1 => ?_)) | (guard_hyp h1 : _ ∧ _; have hx := h1.2; replace h1 := h1.1)) <;> first | contradiction | omega | exact hx.1 x hxm))⟩
 ·intro σ β w1 hE1 hbi hk
  refine ⟨[], (agree_nil _), ?_⟩
  refine WL.load_box rfl rfl rfl (h128.ext hE1) Ty.agg30 ?_
  exact dq hbi rfl
 ·intro σ β w1 hE1 hbi hk
  refine ⟨[], (agree_nil _), ?_⟩
  refine WL.load_box rfl rfl rfl (h130.ext hE1) Ty.agg30 ?_
  exact dq hbi rfl
 ·intro σ β w1 hE1 hbi hk
  refine ⟨[], (agree_nil _), ?_⟩
  refine WL.load_box rfl rfl rfl (h128.ext hE1) Ty.agg30 ?_
  exact dq hbi rfl
 ·intro σ β w1 hE1 hbi hk
  have hz1 := hE1.size
  refine ⟨[(90, .agg (tcells qd16 (.slice a62 qd16.subs.length cap62)).toArray), (91, .agg (tcells qd17 (.slice a77 qd17.subs.length cap77)).toArray), (92, .agg (tcells qd16 (.slice a62 qd16.subs.length cap62)).toArray)], (ak hk 62 (ak hk 63 (ak hk 64 (agree_nil _)))), ?_⟩
  refine WL.buildSlice (vs := [.agg (tcells qd16 (.slice a62 qd16.subs.length cap62)).toArray, .agg (tcells qd17 (.slice a77 qd17.subs.length cap77)).toArray, .agg (tcells qd16 (.slice a62 qd16.subs.length cap62)).toArray]) (cells := (tcells qd16 (.slice a62 qd16.subs.length cap62) ++ tcells qd17 (.slice a77 qd17.subs.length cap77) ++ tcells qd16 (.slice a62 qd16.subs.length cap62))) rfl rfl Ty.slice24 Ty.zero30 rfl rfl rfl rfl rfl rfl (fun b155 w160 hb156 hE159 hs157 hR158 => ?_)
  have hts155 := (NodesV.lit (n := 3) (ts := [qd16, qd17, qd16]) hR158 (RowsL.cons ((h129.ext hE1).ext hE159) (RowsL.cons ((h131.ext hE1).ext hE159) (RowsL.cons ((h129.ext hE1).ext hE159) (RowsL.nil' _)))) rfl rfl (by decide)).lt
  exact dqE hbi hE159 ⟨_, _, rfl, (hts155.dom (by intro k h1; refine ⟨trivial, ?_, h1.2⟩; replace h1 := h1.1; intro x hxm; have hi := hbi.hi x hxm; have lo := hbi.lo x hxm; (try dsimp only at h1); (repeat' first | (guard_hyp h1 : _ ∨ _; refine Or.elim h1 (fun h1 => ?_) (fun h1 => ?_)) | (guard_hyp h1 : _ ∧ _; have hx := h1.2; replace h1 := h1.1)) <;> first | contradiction | omega | exact hx.1 x hxm))⟩
 ·intro σ β w1 hE1 hbi hk
  have hz1 := hE1.size
  obtain ⟨_, hv152, a152, cap152, rfl, hts152⟩ := kn hk 65 rfl rfl
  have hts152 := hts152.lt
  have hlen152 := hts152.len
  refine ⟨[(93, .slice a152 (([qd16, qd17, qd16]).length) cap152)], (ag hv152 (agree_nil _)), ?_⟩
  refine WL.call rfl rfl rfl Ty.ent19 (node11_ok _ _ 4 _ _ ([qd16, qd17, qd16]) hts152) ?_
  rintro _ w155 ⟨l153, rfl, hr153, hE154⟩
  have hzhE154 := hE154.size
  refine ⟨_, rfl, ?_⟩
  have hn153 := hr153.lt
  obtain ⟨a153, cap153, rfl, hts153, hlen153⟩ := hn153.op2
  exact dqE hbi hE154 ⟨_, rfl, (hr153.lt.dom (by intro k h1; refine ⟨trivial, ?_, h1.2⟩; replace h1 := h1.1; intro x hxm; have hi := hbi.hi x hxm; have lo := hbi.lo x hxm; (try dsimp only at h1); (repeat' first | (guard_hyp h1 : _ ∨ _; refine Or.elim h1 (fun h1 => ?_) (fun h1 => ?_)) | (guard_hyp h1 : _ ∧ _; have hx := h1.2; replace h1 := h1.1)) <;> first | contradiction | omega | exact hx.1 x hxm))⟩
 ·intro σ β w1 hE1 hbi hk
  refine ⟨[], (agree_nil _), ?_⟩
  refine WL.load_box rfl rfl rfl (h128.ext hE1) Ty.agg30 ?_
  exact dq hbi rfl
 ·intro σ β w1 hE1 hbi hk
  refine ⟨[], (agree_nil _), ?_⟩
  refine WL.load_box rfl rfl rfl (h130.ext hE1) Ty.agg30 ?_
  exact dq hbi rfl
 ·intro σ β w1 hE1 hbi hk
  have hz1 := hE1.size
  refine ⟨[(95, .agg (tcells qd16 (.slice a62 qd16.subs.length cap62)).toArray), (96, .agg (tcells qd17 (.slice a77 qd17.subs.length cap77)).toArray)], (ak hk 67 (ak hk 68 (agree_nil _))), ?_⟩
  refine WL.buildSlice (vs := [.agg (tcells qd16 (.slice a62 qd16.subs.length cap62)).toArray, .agg (tcells qd17 (.slice a77 qd17.subs.length cap77)).toArray]) (cells := (tcells qd16 (.slice a62 qd16.subs.length cap62) ++ tcells qd17 (.slice a77 qd17.subs.length cap77))) rfl rfl Ty.slice24 Ty.zero30 rfl rfl rfl rfl rfl rfl (fun b154 w159 hb155 hE158 hs156 hR157 => ?_)
  have hts154 := (NodesV.lit (n := 2) (ts := [qd16, qd17]) hR157 (RowsL.cons ((h129.ext hE1).ext hE158) (RowsL.cons ((h131.ext hE1).ext hE158) (RowsL.nil' _))) rfl rfl (by decide)).lt
  exact dqE hbi hE158 ⟨_, _, rfl, (hts154.dom (by intro k h1; refine ⟨trivial, ?_, h1.2⟩; replace h1 := h1.1; intro x hxm; have hi := hbi.hi x hxm; have lo := hbi.lo x hxm; (try dsimp only at h1); (repeat' first | (guard_hyp h1 : _ ∨ _; refine Or.elim h1 (fun h1 => ?_) (fun h1 => ?_)) | (guard_hyp h1 : _ ∧ _; have hx := h1.2; replace h1 := h1.1)) <;> first | contradiction | omega | exact hx.1 x hxm))⟩
 ·intro σ β w1 hE1 hbi hk
  have hz1 := hE1.size
  obtain ⟨_, hv152, a152, cap152, rfl, hts152⟩ := kn hk 69 rfl rfl
  have hts152 := hts152.lt
  have hlen152 := hts152.len
  refine ⟨[(97, .slice a152 (([qd16, qd17]).length) cap152)], (ag hv152 (agree_nil _)), ?_⟩
  refine WL.call rfl rfl rfl Ty.ent19 (node11_ok _ _ 4 _ _ ([qd16, qd17]) hts152) ?_
  rintro _ w155 ⟨l153, rfl, hr153, hE154⟩
  have hzhE154 := hE154.size
  refine ⟨_, rfl, ?_⟩
  have hn153 := hr153.lt
  obtain ⟨a153, cap153, rfl, hts153, hlen153⟩ := hn153.op2
  exact dqE hbi hE154 ⟨_, rfl, (hr153.lt.dom (by intro k h1; refine ⟨trivial, ?_, h1.2⟩; replace h1 := h1.1; intro x hxm; have hi := hbi.hi x hxm; have lo := hbi.lo x hxm; (try dsimp only at h1); (repeat' first | (guard_hyp h1 : _ ∨ _; refine Or.elim h1 (fun h1 => ?_) (fun h1 => ?_)) | (guard_hyp h1 : _ ∧ _; have hx := h1.2; replace h1 := h1.1)) <;> first | contradiction | omega | exact hx.1 x hxm))⟩
 ·intro σ β w1 hE1 hbi hk
  have hz1 := hE1.size
  obtain ⟨_, hv152, l152, rfl, hn152⟩ := kn hk 66 rfl rfl
  have hn152 := hn152.lt
  obtain ⟨a152, cap152, rfl, hts152, hlen152⟩ := hn152.op2
  obtain ⟨_, hv153, l153, rfl, hn153⟩ := kn hk 70 rfl rfl
  have hn153 := hn153.lt
  obtain ⟨a153, cap153, rfl, hts153, hlen153⟩ := hn153.op2
  refine ⟨[(94, .agg (tcells qd28 (.slice a152 qd28.subs.length cap152)).toArray), (98, .agg (tcells qd22 (.slice a153 qd22.subs.length cap153)).toArray)], (ag hv152 (ag hv153 (agree_nil _))), ?_⟩
  refine WL.build (l := (tcells qd28 (.slice a152 qd28.subs.length cap152) ++ tcells qd22 (.slice a153 qd22.subs.length cap153))) rfl rfl Ty.zero46 Ty.st46 ⟨⟨rfl, rfl⟩, (by kernel_rfl)⟩ ?_
  exact dq hbi ⟨(tcells qd28 (.slice a152 qd28.subs.length cap152)), (tcells qd22 (.slice a153 qd22.subs.length cap153)), rfl, (hn152.lt.dom (by intro k h1; refine ⟨trivial, ?_, h1.2⟩; replace h1 := h1.1; intro x hxm; have hi := hbi.hi x hxm; have lo := hbi.lo x hxm; (try dsimp only at h1); (repeat' first | (guard_hyp h1 : _ ∨ _; refine Or.elim h1 (fun h1 => ?_) (fun h1 => ?_)) | (guard_hyp h1 : _ ∧ _; have hx := h1.2; replace h1 := h1.1)) <;> first | contradiction | omega | exact hx.1 x hxm)), (hn153.lt.dom (by intro k h1; refine ⟨trivial, ?_, h1.2⟩; replace h1 := h1.1; intro x hxm; have hi := hbi.hi x hxm; have lo := hbi.lo x hxm; (try dsimp only at h1); (repeat' first | (guard_hyp h1 : _ ∨ _; refine Or.elim h1 (fun h1 => ?_) (fun h1 => ?_)) | (guard_hyp h1 : _ ∧ _; have hx := h1.2; replace h1 := h1.1)) <;> first | contradiction | omega | exact hx.1 x hxm))⟩
 ·intro σ β w1 hE1 hbi hk
  refine ⟨[], (agree_nil _), ?_⟩
  refine WL.load_box rfl rfl rfl (h126.ext hE1) Ty.agg30 ?_
  exact dq hbi rfl
 ·intro σ β w1 hE1 hbi hk
  refine ⟨[], (agree_nil _), ?_⟩
  refine WL.load_box rfl rfl rfl (h126.ext hE1) Ty.agg30 ?_
  exact dq hbi rfl
 ·intro σ β w1 hE1 hbi hk
  have hz1 := hE1.size
  refine ⟨[(100, .agg (tcells qd10 (.slice a40 qd10.subs.length cap40)).toArray), (101, .agg (tcells qd10 (.slice a40 qd10.subs.length cap40)).toArray)], (ak hk 72 (ak hk 73 (agree_nil _))), ?_⟩
  refine WL.buildSlice (vs := [.agg (tcells qd10 (.slice a40 qd10.subs.length cap40)).toArray, .agg (tcells qd10 (.slice a40 qd10.subs.length cap40)).toArray]) (cells := (tcells qd10 (.slice a40 qd10.subs.length cap40) ++ tcells qd10 (.slice a40 qd10.subs.length cap40))) rfl rfl Ty.slice24 Ty.zero30 rfl rfl rfl rfl rfl rfl (fun b154 w159 hb155 hE158 hs156 hR157 => ?_)
  have hts154 := (NodesV.lit (n := 2) (ts := [qd10, qd10]) hR157 (RowsL.cons ((h127.ext hE1).ext hE158) (RowsL.cons ((h127.ext hE1).ext hE158) (RowsL.nil' _))) rfl rfl (by decide)).lt
  exact dqE hbi hE158 ⟨_, _, rfl, (hts154.dom (by intro k h1; refine ⟨trivial, ?_, h1.2⟩; replace h1 := h1.1; intro x hxm; have hi := hbi.hi x hxm; have lo := hbi.lo x hxm; (try dsimp only at h1); (repeat' first | (guard_hyp h1 : _ ∨ _; refine Or.elim h1 (fun h1 => ?_) (fun h1 => ?_)) | (guard_hyp h1 : _ ∧ _; have hx := h1.2; replace h1 := h1.1)) <;> first | contradiction | omega | exact hx.1 x hxm))⟩
 ·intro σ β w1 hE1 hbi hk
  have hz1 := hE1.size
  obtain ⟨_, hv152, a152, cap152, rfl, hts152⟩ := kn hk 74 rfl rfl
  have hts152 := hts152.lt
  have hlen152 := hts152.len
  refine ⟨[(102, .slice a152 (([qd10, qd10]).length) cap152)], (ag hv152 (agree_nil _)), ?_⟩
  refine WL.call rfl rfl rfl Ty.ent19 (node11_ok _ _ 3 _ _ ([qd10, qd10]) hts152) ?_
  rintro _ w155 ⟨l153, rfl, hr153, hE154⟩
  have hzhE154 := hE154.size
  refine ⟨_, rfl, ?_⟩
  have hn153 := hr153.lt
  obtain ⟨a153, cap153, rfl, hts153, hlen153⟩ := hn153.op2
  exact dqE hbi hE154 ⟨_, rfl, (hr153.lt.dom (by intro k h1; refine ⟨trivial, ?_, h1.2⟩; replace h1 := h1.1; intro x hxm; have hi := hbi.hi x hxm; have lo := hbi.lo x hxm; (try dsimp only at h1); (repeat' first | (guard_hyp h1 : _ ∨ _; refine Or.elim h1 (fun h1 => ?_) (fun h1 => ?_)) | (guard_hyp h1 : _ ∧ _; have hx := h1.2; replace h1 := h1.1)) <;> first | contradiction | omega | exact hx.1 x hxm))⟩
 ·intro σ β w1 hE1 hbi hk
  refine ⟨[], (agree_nil _), ?_⟩
  refine WL.load_box rfl rfl rfl (h126.ext hE1) Ty.agg30 ?_
  exact dq hbi rfl
 ·intro σ β w1 hE1 hbi hk
  have hz1 := hE1.size
  obtain ⟨_, hv152, l152, rfl, hn152⟩ := kn hk 75 rfl rfl
  have hn152 := hn152.lt
  obtain ⟨a152, cap152, rfl, hts152, hlen152⟩ := hn152.op2
  refine ⟨[(103, .agg (tcells qd23 (.slice a152 qd23.subs.length cap152)).toArray), (104, .agg (tcells qd10 (.slice a40 qd10.subs.length cap40)).toArray)], (ag hv152 (ak hk 76 (agree_nil _))), ?_⟩
  refine WL.build (l := (tcells qd23 (.slice a152 qd23.subs.length cap152) ++ tcells qd10 (.slice a40 qd10.subs.length cap40))) rfl rfl Ty.zero46 Ty.st46 ⟨⟨rfl, rfl⟩, (by kernel_rfl)⟩ ?_
  exact dq hbi ⟨(tcells qd23 (.slice a152 qd23.subs.length cap152)), (tcells qd10 (.slice a40 qd10.subs.length cap40)), rfl, (hn152.lt.dom (by intro k h1; refine ⟨trivial, ?_, h1.2⟩; replace h1 := h1.1; intro x hxm; have hi := hbi.hi x hxm; have lo := hbi.lo x hxm; (try dsimp only at h1); (repeat' first | (guard_hyp h1 : _ ∨ _; refine Or.elim h1 (fun h1 => ?_) (fun h1 => ?_)) | (guard_hyp h1 : _ ∧ _; have hx := h1.2; replace h1 := h1.1)) <;> first | contradiction | omega | exact hx.1 x hxm)), ((h127.ext hE1).lt.dom (by intro k h1; refine ⟨trivial, ?_, h1.2⟩; replace h1 := h1.1; intro x hxm; have hi := hbi.hi x hxm; have lo := hbi.lo x hxm; (try dsimp only at h1); (repeat' first | (guard_hyp h1 : _ ∨ _; refine Or.elim h1 (fun h1 => ?_) (fun h1 => ?_)) | (guard_hyp h1 : _ ∧ _; have hx := h1.2; replace h1 := h1.1)) <;> first | contradiction | omega | exact hx.1 x hxm))⟩
 ·intro σ β w1 hE1 hbi hk
  refine ⟨[], (agree_nil _), ?_⟩
  refine WL.load_box rfl rfl rfl (h121.ext hE1) Ty.agg30 ?_
  exact dq hbi rfl
 ·intro σ β w1 hE1 hbi hk
  have hz1 := hE1.size
  refine ⟨[(106, .agg (tcells qd1 (.slice a1 qd1.subs.length cap1)).toArray)], (ak hk 78 (agree_nil _)), ?_⟩
  refine WL.call rfl rfl rfl Ty.ent18 (rep11_ok _ _ _ qd1 0 1 (h118.ext hE1)) ?_
  rintro _ w155 ⟨l153, rfl, hr153, hE154⟩
  have hzhE154 := hE154.size
  refine ⟨_, rfl, ?_⟩
  have hn153 := hr153.lt
  obtain ⟨a153, cap153, rfl, hts153, hlen153⟩ := hn153.op2
  exact dqE hbi hE154 ⟨_, rfl, (hr153.lt.dom (by intro k h1; refine ⟨trivial, ?_, h1.2⟩; replace h1 := h1.1; intro x hxm; have hi := hbi.hi x hxm; have lo := hbi.lo x hxm; (try dsimp only at h1); (repeat' first | (guard_hyp h1 : _ ∨ _; refine Or.elim h1 (fun h1 => ?_) (fun h1 => ?_)) | (guard_hyp h1 : _ ∧ _; have hx := h1.2; replace h1 := h1.1)) <;> first | contradiction | omega | exact hx.1 x hxm))⟩
 ·intro σ β w1 hE1 hbi hk
  have hz1 := hE1.size
  obtain ⟨_, hv152, l152, rfl, hn152⟩ := kn hk 79 rfl rfl
  have hn152 := hn152.lt
  obtain ⟨a152, cap152, rfl, hts152, hlen152⟩ := hn152.op2
  refine ⟨[(107, .agg (tcells qd7 (.slice a152 qd7.subs.length cap152)).toArray)], (ag hv152 (agree_nil _)), ?_⟩
  refine WL.call rfl rfl rfl Ty.ent18 (rep11_ok _ _ _ qd7 2 2 hn152) ?_
  rintro _ w155 ⟨l153, rfl, hr153, hE154⟩
  have hzhE154 := hE154.size
  refine ⟨_, rfl, ?_⟩
  have hn153 := hr153.lt
  obtain ⟨a153, cap153, rfl, hts153, hlen153⟩ := hn153.op2
  exact dqE hbi hE154 ⟨_, rfl, (hr153.lt.dom (by intro k h1; refine ⟨trivial, ?_, h1.2⟩; replace h1 := h1.1; intro x hxm; have hi := hbi.hi x hxm; have lo := hbi.lo x hxm; (try dsimp only at h1); (repeat' first | (guard_hyp h1 : _ ∨ _; refine Or.elim h1 (fun h1 => ?_) (fun h1 => ?_)) | (guard_hyp h1 : _ ∧ _; have hx := h1.2; replace h1 := h1.1)) <;> first | contradiction | omega | exact hx.1 x hxm))⟩
 ·intro σ β w1 hE1 hbi hk
  refine ⟨[], (agree_nil _), ?_⟩
  refine WL.load_box rfl rfl rfl (h121.ext hE1) Ty.agg30 ?_
  exact dq hbi rfl
 ·intro σ β w1 hE1 hbi hk
  have hz1 := hE1.size
  refine ⟨[(109, .agg (tcells qd1 (.slice a1 qd1.subs.length cap1)).toArray)], (ak hk 81 (agree_nil _)), ?_⟩
  refine WL.call rfl rfl rfl Ty.ent18 (rep11_ok _ _ _ qd1 0 1 (h118.ext hE1)) ?_
  rintro _ w155 ⟨l153, rfl, hr153, hE154⟩
  have hzhE154 := hE154.size
  refine ⟨_, rfl, ?_⟩
  have hn153 := hr153.lt
  obtain ⟨a153, cap153, rfl, hts153, hlen153⟩ := hn153.op2
  exact dqE hbi hE154 ⟨_, rfl, (hr153.lt.dom (by intro k h1; refine ⟨trivial, ?_, h1.2⟩; replace h1 := h1.1; intro x hxm; have hi := hbi.hi x hxm; have lo := hbi.lo x hxm; (try dsimp only at h1); (repeat' first | (guard_hyp h1 : _ ∨ _; refine Or.elim h1 (fun h1 => ?_) (fun h1 => ?_)) | (guard_hyp h1 : _ ∧ _; have hx := h1.2; replace h1 := h1.1)) <;> first | contradiction | omega | exact hx.1 x hxm))⟩
 ·intro σ β w1 hE1 hbi hk
  have hz1 := hE1.size
  obtain ⟨_, hv152, l152, rfl, hn152⟩ := kn hk 82 rfl rfl
  have hn152 := hn152.lt
  obtain ⟨a152, cap152, rfl, hts152, hlen152⟩ := hn152.op2
  refine ⟨[(110, .agg (tcells qd7 (.slice a152 qd7.subs.length cap152)).toArray)], (ag hv152 (agree_nil _)), ?_⟩
  refine WL.call rfl rfl rfl Ty.ent18 (rep11_ok _ _ _ qd7 2 2 hn152) ?_
  rintro _ w155 ⟨l153, rfl, hr153, hE154⟩
  have hzhE154 := hE154.size
  refine ⟨_, rfl, ?_⟩
  have hn153 := hr153.lt
  obtain ⟨a153, cap153, rfl, hts153, hlen153⟩ := hn153.op2
  exact dqE hbi hE154 ⟨_, rfl, (hr153.lt.dom (by intro k h1; refine ⟨trivial, ?_, h1.2⟩; replace h1 := h1.1; intro x hxm; have hi := hbi.hi x hxm; have lo := hbi.lo x hxm; (try dsimp only at h1); (repeat' first | (guard_hyp h1 : _ ∨ _; refine Or.elim h1 (fun h1 => ?_) (fun h1 => ?_)) | (guard_hyp h1 : _ ∧ _; have hx := h1.2; replace h1 := h1.1)) <;> first | contradiction | omega | exact hx.1 x hxm))⟩
 ·intro σ β w1 hE1 hbi hk
  have hz1 := hE1.size
  obtain ⟨_, hv152, l152, rfl, hn152⟩ := kn hk 80 rfl rfl
  have hn152 := hn152.lt
  obtain ⟨a152, cap152, rfl, hts152, hlen152⟩ := hn152.op2
  obtain ⟨_, hv153, l153, rfl, hn153⟩ := kn hk 83 rfl rfl
  have hn153 := hn153.lt
  obtain ⟨a153, cap153, rfl, hts153, hlen153⟩ := hn153.op2
  refine ⟨[(108, .agg (tcells qd8 (.slice a152 qd8.subs.length cap152)).toArray), (111, .agg (tcells qd8 (.slice a153 qd8.subs.length cap153)).toArray)], (ag hv152 (ag hv153 (agree_nil _))), ?_⟩
  refine WL.build (l := (tcells qd8 (.slice a152 qd8.subs.length cap152) ++ tcells qd8 (.slice a153 qd8.subs.length cap153))) rfl rfl Ty.zero46 Ty.st46 ⟨⟨rfl, rfl⟩, (by kernel_rfl)⟩ ?_
  exact dq hbi ⟨(tcells qd8 (.slice a152 qd8.subs.length cap152)), (tcells qd8 (.slice a153 qd8.subs.length cap153)), rfl, (hn152.lt.dom (by intro k h1; refine ⟨trivial, ?_, h1.2⟩; replace h1 := h1.1; intro x hxm; have hi := hbi.hi x hxm; have lo := hbi.lo x hxm; (try dsimp only at h1); (repeat' first | (guard_hyp h1 : _ ∨ _; refine Or.elim h1 (fun h1 => ?_) (fun h1 => ?_)) | (guard_hyp h1 : _ ∧ _; have hx := h1.2; replace h1 := h1.1)) <;> first | contradiction | omega | exact hx.1 x hxm)), (hn153.lt.dom (by intro k h1; refine ⟨trivial, ?_, h1.2⟩; replace h1 := h1.1; intro x hxm; have hi := hbi.hi x hxm; have lo := hbi.lo x hxm; (try dsimp only at h1); (repeat' first | (guard_hyp h1 : _ ∨ _; refine Or.elim h1 (fun h1 => ?_) (fun h1 => ?_)) | (guard_hyp h1 : _ ∧ _; have hx := h1.2; replace h1 := h1.1)) <;> first | contradiction | omega | exact hx.1 x hxm))⟩
 ·intro σ β w1 hE1 hbi hk
  have hz1 := hE1.size
  obtain ⟨_, hv152, l152, l153, rfl, hn152, hn153⟩ := kn hk 6 rfl rfl
  have hn152 := hn152.lt
  have hn153 := hn153.lt
  obtain ⟨a152, cap152, rfl, hts152, hlen152⟩ := hn152.op2
  obtain ⟨a153, cap153, rfl, hts153, hlen153⟩ := hn153.op2
  obtain ⟨_, hv154, l154, l155, rfl, hn154, hn155⟩ := kn hk 13 rfl rfl
  have hn154 := hn154.lt
  have hn155 := hn155.lt
  obtain ⟨a154, cap154, rfl, hts154, hlen154⟩ := hn154.op2
  obtain ⟨a155, cap155, rfl, hts155, hlen155⟩ := hn155.op2
  obtain ⟨_, hv156, l156, l157, rfl, hn156, hn157⟩ := kn hk 17 rfl rfl
  have hn156 := hn156.lt
  have hn157 := hn157.lt
  obtain ⟨a156, cap156, rfl, hts156, hlen156⟩ := hn156.op2
  obtain ⟨a157, cap157, rfl, hts157, hlen157⟩ := hn157.op2
  obtain ⟨_, hv158, l158, l159, rfl, hn158, hn159⟩ := kn hk 29 rfl rfl
  have hn158 := hn158.lt
  have hn159 := hn159.lt
  obtain ⟨a158, cap158, rfl, hts158, hlen158⟩ := hn158.op2
  obtain ⟨a159, cap159, rfl, hts159, hlen159⟩ := hn159.op2
  obtain ⟨_, hv160, l160, l161, rfl, hn160, hn161⟩ := kn hk 40 rfl rfl
  have hn160 := hn160.lt
  have hn161 := hn161.lt
  obtain ⟨a160, cap160, rfl, hts160, hlen160⟩ := hn160.op2
  obtain ⟨a161, cap161, rfl, hts161, hlen161⟩ := hn161.op2
  obtain ⟨_, hv162, l162, l163, rfl, hn162, hn163⟩ := kn hk 50 rfl rfl
  have hn162 := hn162.lt
  have hn163 := hn163.lt
  obtain ⟨a162, cap162, rfl, hts162, hlen162⟩ := hn162.op2
  obtain ⟨a163, cap163, rfl, hts163, hlen163⟩ := hn163.op2
  obtain ⟨_, hv164, l164, l165, rfl, hn164, hn165⟩ := kn hk 61 rfl rfl
  have hn164 := hn164.lt
  have hn165 := hn165.lt
  obtain ⟨a164, cap164, rfl, hts164, hlen164⟩ := hn164.op2
  obtain ⟨a165, cap165, rfl, hts165, hlen165⟩ := hn165.op2
  obtain ⟨_, hv166, l166, l167, rfl, hn166, hn167⟩ := kn hk 71 rfl rfl
  have hn166 := hn166.lt
  have hn167 := hn167.lt
  obtain ⟨a166, cap166, rfl, hts166, hlen166⟩ := hn166.op2
  obtain ⟨a167, cap167, rfl, hts167, hlen167⟩ := hn167.op2
  obtain ⟨_, hv168, l168, l169, rfl, hn168, hn169⟩ := kn hk 77 rfl rfl
  have hn168 := hn168.lt
  have hn169 := hn169.lt
  obtain ⟨a168, cap168, rfl, hts168, hlen168⟩ := hn168.op2
  obtain ⟨a169, cap169, rfl, hts169, hlen169⟩ := hn169.op2
  obtain ⟨_, hv170, l170, l171, rfl, hn170, hn171⟩ := kn hk 84 rfl rfl
  have hn170 := hn170.lt
  have hn171 := hn171.lt
  obtain ⟨a170, cap170, rfl, hts170, hlen170⟩ := hn170.op2
  obtain ⟨a171, cap171, rfl, hts171, hlen171⟩ := hn171.op2
  refine ⟨[(34, .agg (tcells qd24 (.slice a152 qd24.subs.length cap152) ++ tcells qd5 (.slice a153 qd5.subs.length cap153)).toArray), (41, .agg (tcells qd14 (.slice a154 qd14.subs.length cap154) ++ tcells qd7 (.slice a155 qd7.subs.length cap155)).toArray), (45, .agg (tcells qd13 (.slice a156 qd13.subs.length cap156) ++ tcells qd10 (.slice a157 qd10.subs.length cap157)).toArray), (57, .agg (tcells qd19 (.slice a158 qd19.subs.length cap158) ++ tcells qd20 (.slice a159 qd20.subs.length cap159)).toArray), (68, .agg (tcells qd27 (.slice a160 qd27.subs.length cap160) ++ tcells qd21 (.slice a161 qd21.subs.length cap161)).toArray), (78, .agg (tcells qd25 (.slice a162 qd25.subs.length cap162) ++ tcells qd15 (.slice a163 qd15.subs.length cap163)).toArray), (89, .agg (tcells qd26 (.slice a164 qd26.subs.length cap164) ++ tcells qd26 (.slice a165 qd26.subs.length cap165)).toArray), (99, .agg (tcells qd28 (.slice a166 qd28.subs.length cap166) ++ tcells qd22 (.slice a167 qd22.subs.length cap167)).toArray), (105, .agg (tcells qd23 (.slice a168 qd23.subs.length cap168) ++ tcells qd10 (.slice a169 qd10.subs.length cap169)).toArray), (112, .agg (tcells qd8 (.slice a170 qd8.subs.length cap170) ++ tcells qd8 (.slice a171 qd8.subs.length cap171)).toArray)], (ag hv152 (ag hv154 (ag hv156 (ag hv158 (ag hv160 (ag hv162 (ag hv164 (ag hv166 (ag hv168 (ag hv170 (agree_nil _))))))))))), ?_⟩
  refine WL.buildSlice (vs := [.agg #[.int .u8 qd24.kind, .int .u64 qd24.set.a, .int .u64 qd24.set.b, .int .u64 qd24.set.c, .int .u64 qd24.set.d, .int .i64 qd24.least, .int .i64 qd24.most, .slice a152 qd24.subs.length cap152, .int .u8 qd5.kind, .int .u64 qd5.set.a, .int .u64 qd5.set.b, .int .u64 qd5.set.c, .int .u64 qd5.set.d, .int .i64 qd5.least, .int .i64 qd5.most, .slice a153 qd5.subs.length cap153], .agg #[.int .u8 qd14.kind, .int .u64 qd14.set.a, .int .u64 qd14.set.b, .int .u64 qd14.set.c, .int .u64 qd14.set.d, .int .i64 qd14.least, .int .i64 qd14.most, .slice a154 qd14.subs.length cap154, .int .u8 qd7.kind, .int .u64 qd7.set.a, .int .u64 qd7.set.b, .int .u64 qd7.set.c, .int .u64 qd7.set.d, .int .i64 qd7.least, .int .i64 qd7.most, .slice a155 qd7.subs.length cap155], .agg #[.int .u8 qd13.kind, .int .u64 qd13.set.a, .int .u64 qd13.set.b, .int .u64 qd13.set.c, .int .u64 qd13.set.d, .int .i64 qd13.least, .int .i64 qd13.most, .slice a156 qd13.subs.length cap156, .int .u8 qd10.kind, .int .u64 qd10.set.a, .int .u64 qd10.set.b, .int .u64 qd10.set.c, .int .u64 qd10.set.d, .int .i64 qd10.least, .int .i64 qd10.most, .slice a157 qd10.subs.length cap157], .agg #[.int .u8 qd19.kind, .int .u64 qd19.set.a, .int .u64 qd19.set.b, .int .u64 qd19.set.c, .int .u64 qd19.set.d, .int .i64 qd19.least, .int .i64 qd19.most, .slice a158 qd19.subs.length cap158, .int .u8 qd20.kind, .int .u64 qd20.set.a, .int .u64 qd20.set.b, .int .u64 qd20.set.c, .int .u64 qd20.set.d, .int .i64 qd20.least, .int .i64 qd20.most, .slice a159 qd20.subs.length cap159], .agg #[.int .u8 qd27.kind, .int .u64 qd27.set.a, .int .u64 qd27.set.b, .int .u64 qd27.set.c, .int .u64 qd27.set.d, .int .i64 qd27.least, .int .i64 qd27.most, .slice a160 qd27.subs.length cap160, .int .u8 qd21.kind, .int .u64 qd21.set.a, .int .u64 qd21.set.b, .int .u64 qd21.set.c, .int .u64 qd21.set.d, .int .i64 qd21.least, .int .i64 qd21.most, .slice a161 qd21.subs.length cap161], .agg #[.int .u8 qd25.kind, .int .u64 qd25.set.a, .int .u64 qd25.set.b, .int .u64 qd25.set.c, .int .u64 qd25.set.d, .int .i64 qd25.least, .int .i64 qd25.most, .slice a162 qd25.subs.length cap162, .int .u8 qd15.kind, .int .u64 qd15.set.a, .int .u64 qd15.set.b, .int .u64 qd15.set.c, .int .u64 qd15.set.d, .int .i64 qd15.least, .int .i64 qd15.most, .slice a163 qd15.subs.length cap163], .agg #[.int .u8 qd26.kind, .int .u64 qd26.set.a, .int .u64 qd26.set.b, .int .u64 qd26.set.c, .int .u64 qd26.set.d, .int .i64 qd26.least, .int .i64 qd26.most, .slice a164 qd26.subs.length cap164, .int .u8 qd26.kind, .int .u64 qd26.set.a, .int .u64 qd26.set.b, .int .u64 qd26.set.c, .int .u64 qd26.set.d, .int .i64 qd26.least, .int .i64 qd26.most, .slice a165 qd26.subs.length cap165], .agg #[.int .u8 qd28.kind, .int .u64 qd28.set.a, .int .u64 qd28.set.b, .int .u64 qd28.set.c, .int .u64 qd28.set.d, .int .i64 qd28.least, .int .i64 qd28.most, .slice a166 qd28.subs.length cap166, .int .u8 qd22.kind, .int .u64 qd22.set.a, .int .u64 qd22.set.b, .int .u64 qd22.set.c, .int .u64 qd22.set.d, .int .i64 qd22.least, .int .i64 qd22.most, .slice a167 qd22.subs.length cap167], .agg #[.int .u8 qd23.kind, .int .u64 qd23.set.a, .int .u64 qd23.set.b, .int .u64 qd23.set.c, .int .u64 qd23.set.d, .int .i64 qd23.least, .int .i64 qd23.most, .slice a168 qd23.subs.length cap168, .int .u8 qd10.kind, .int .u64 qd10.set.a, .int .u64 qd10.set.b, .int .u64 qd10.set.c, .int .u64 qd10.set.d, .int .i64 qd10.least, .int .i64 qd10.most, .slice a169 qd10.subs.length cap169], .agg #[.int .u8 qd8.kind, .int .u64 qd8.set.a, .int .u64 qd8.set.b, .int .u64 qd8.set.c, .int .u64 qd8.set.d, .int .i64 qd8.least, .int .i64 qd8.most, .slice a170 qd8.subs.length cap170, .int .u8 qd8.kind, .int .u64 qd8.set.a, .int .u64 qd8.set.b, .int .u64 qd8.set.c, .int .u64 qd8.set.d, .int .i64 qd8.least, .int .i64 qd8.most, .slice a171 qd8.subs.length cap171]]) (cells := [.int .u8 qd24.kind, .int .u64 qd24.set.a, .int .u64 qd24.set.b, .int .u64 qd24.set.c, .int .u64 qd24.set.d, .int .i64 qd24.least, .int .i64 qd24.most, .slice a152 qd24.subs.length cap152, .int .u8 qd5.kind, .int .u64 qd5.set.a, .int .u64 qd5.set.b, .int .u64 qd5.set.c, .int .u64 qd5.set.d, .int .i64 qd5.least, .int .i64 qd5.most, .slice a153 qd5.subs.length cap153, .int .u8 qd14.kind, .int .u64 qd14.set.a, .int .u64 qd14.set.b, .int .u64 qd14.set.c, .int .u64 qd14.set.d, .int .i64 qd14.least, .int .i64 qd14.most, .slice a154 qd14.subs.length cap154, .int .u8 qd7.kind, .int .u64 qd7.set.a, .int .u64 qd7.set.b, .int .u64 qd7.set.c, .int .u64 qd7.set.d, .int .i64 qd7.least, .int .i64 qd7.most, .slice a155 qd7.subs.length cap155, .int .u8 qd13.kind, .int .u64 qd13.set.a, .int .u64 qd13.set.b, .int .u64 qd13.set.c, .int .u64 qd13.set.d, .int .i64 qd13.least, .int .i64 qd13.most, .slice a156 qd13.subs.length cap156, .int .u8 qd10.kind, .int .u64 qd10.set.a, .int .u64 qd10.set.b, .int .u64 qd10.set.c, .int .u64 qd10.set.d, .int .i64 qd10.least, .int .i64 qd10.most, .slice a157 qd10.subs.length cap157, .int .u8 qd19.kind, .int .u64 qd19.set.a, .int .u64 qd19.set.b, .int .u64 qd19.set.c, .int .u64 qd19.set.d, .int .i64 qd19.least, .int .i64 qd19.most, .slice a158 qd19.subs.length cap158, .int .u8 qd20.kind, .int .u64 qd20.set.a, .int .u64 qd20.set.b, .int .u64 qd20.set.c, .int .u64 qd20.set.d, .int .i64 qd20.least, .int .i64 qd20.most, .slice a159 qd20.subs.length cap159, .int .u8 qd27.kind, .int .u64 qd27.set.a, .int .u64 qd27.set.b, .int .u64 qd27.set.c, .int .u64 qd27.set.d, .int .i64 qd27.least, .int .i64 qd27.most, .slice a160 qd27.subs.length cap160, .int .u8 qd21.kind, .int .u64 qd21.set.a, .int .u64 qd21.set.b, .int .u64 qd21.set.c, .int .u64 qd21.set.d, .int .i64 qd21.least, .int .i64 qd21.most, .slice a161 qd21.subs.length cap161, .int .u8 qd25.kind, .int .u64 qd25.set.a, .int .u64 qd25.set.b, .int .u64 qd25.set.c, .int .u64 qd25.set.d, .int .i64 qd25.least, .int .i64 qd25.most, .slice a162 qd25.subs.length cap162, .int .u8 qd15.kind, .int .u64 qd15.set.a, .int .u64 qd15.set.b, .int .u64 qd15.set.c, .int .u64 qd15.set.d, .int .i64 qd15.least, .int .i64 qd15.most, .slice a163 qd15.subs.length cap163, .int .u8 qd26.kind, .int .u64 qd26.set.a, .int .u64 qd26.set.b, .int .u64 qd26.set.c, .int .u64 qd26.set.d, .int .i64 qd26.least, .int .i64 qd26.most, .slice a164 qd26.subs.length cap164, .int .u8 qd26.kind, .int .u64 qd26.set.a, .int .u64 qd26.set.b, .int .u64 qd26.set.c, .int .u64 qd26.set.d, .int .i64 qd26.least, .int .i64 qd26.most, .slice a165 qd26.subs.length cap165, .int .u8 qd28.kind, .int .u64 qd28.set.a, .int .u64 qd28.set.b, .int .u64 qd28.set.c, .int .u64 qd28.set.d, .int .i64 qd28.least, .int .i64 qd28.most, .slice a166 qd28.subs.length cap166, .int .u8 qd22.kind, .int .u64 qd22.set.a, .int .u64 qd22.set.b, .int .u64 qd22.set.c, .int .u64 qd22.set.d, .int .i64 qd22.least, .int .i64 qd22.most, .slice a167 qd22.subs.length cap167, .int .u8 qd23.kind, .int .u64 qd23.set.a, .int .u64 qd23.set.b, .int .u64 qd23.set.c, .int .u64 qd23.set.d, .int .i64 qd23.least, .int .i64 qd23.most, .slice a168 qd23.subs.length cap168, .int .u8 qd10.kind, .int .u64 qd10.set.a, .int .u64 qd10.set.b, .int .u64 qd10.set.c, .int .u64 qd10.set.d, .int .i64 qd10.least, .int .i64 qd10.most, .slice a169 qd10.subs.length cap169, .int .u8 qd8.kind, .int .u64 qd8.set.a, .int .u64 qd8.set.b, .int .u64 qd8.set.c, .int .u64 qd8.set.d, .int .i64 qd8.least, .int .i64 qd8.most, .slice a170 qd8.subs.length cap170, .int .u8 qd8.kind, .int .u64 qd8.set.a, .int .u64 qd8.set.b, .int .u64 qd8.set.c, .int .u64 qd8.set.d, .int .i64 qd8.least, .int .i64 qd8.most, .slice a171 qd8.subs.length cap171]) rfl rfl Ty.slice47 Ty.zero46 rfl rfl rfl rfl rfl rfl (fun b172 w177 hb173 hE176 hs174 hR175 => ?_)
  have hts172 := (NodesV.lit (n := 20) (ts := [qd24, qd5, qd14, qd7, qd13, qd10, qd19, qd20, qd27, qd21, qd25, qd15, qd26, qd26, qd28, qd22, qd23, qd10, qd8, qd8]) hR175 (RowsL.cons (hn152.ext hE176) (RowsL.cons (hn153.ext hE176) (RowsL.cons (hn154.ext hE176) (RowsL.cons (hn155.ext hE176) (RowsL.cons (hn156.ext hE176) (RowsL.cons (hn157.ext hE176) (RowsL.cons (hn158.ext hE176) (RowsL.cons (hn159.ext hE176) (RowsL.cons (hn160.ext hE176) (RowsL.cons (hn161.ext hE176) (RowsL.cons (hn162.ext hE176) (RowsL.cons (hn163.ext hE176) (RowsL.cons (hn164.ext hE176) (RowsL.cons (hn165.ext hE176) (RowsL.cons (hn166.ext hE176) (RowsL.cons (hn167.ext hE176) (RowsL.cons (hn168.ext hE176) (RowsL.cons (hn169.ext hE176) (RowsL.cons (hn170.ext hE176) (RowsL.cons (hn171.ext hE176) (RowsL.nil' _))))))))))))))))))))) rfl rfl (by decide)).lt
  exact dqE hbi hE176 ⟨_, rfl, (hts172.dom (by intro k h1; refine ⟨trivial, ?_, h1.2⟩; replace h1 := h1.1; intro x hxm; have hi := hbi.hi x hxm; have lo := hbi.lo x hxm; (try dsimp only at h1); (repeat' first | (guard_hyp h1 : _ ∨ _; refine Or.elim h1 (fun h1 => ?_) (fun h1 => ?_)) | (guard_hyp h1 : _ ∧ _; have hx := h1.2; replace h1 := h1.1)) <;> first | contradiction | omega | exact hx.1 x hxm))⟩
 ·intro σ β w1 hE1 hbi hk
  obtain ⟨_, hv152, b152, rfl, hts152⟩ := kn hk 85 rfl rfl
  have hts152 := hts152.lt
  refine ⟨[(113, .slice (some ⟨b152, 0, none⟩) 10 10)], (ag hv152 (agree_nil _)), ?_⟩
  refine WL.len rfl rfl Try.underlying47 rfl ?_
  exact dq hbi rfl
 ·intro σ β w1 hE1 hbi hk
  refine ⟨[], (agree_nil _), ?_⟩
  refine mv ?_
  exact dq hbi rfl
 intro σ β w132 hE132 hbi132 hk
 have hz132 := hE132.size
 have hbi := hbi132
 obtain ⟨_, hv133, b133, rfl, hts133⟩ := hk 85 (by decide) _ _ rfl rfl
 have hts133 := hts133.lt
 refine WL.know [(113, .slice (some ⟨b133, 0, none⟩) 10 10), (114, .int .i64 10), (115, .int .i64 0)] (ag hv133 (aj hk 86 (aj hk 87 (agree_nil _)))) ?_
 refine WL.dn ?_
 refine WC.block ?_
 have hpb : Nd.pairsB [qd24, qd5, qd14, qd7, qd13, qd10, qd19, qd20, qd27, qd21, qd25, qd15, qd26, qd26, qd28, qd22, qd23, qd10, qd8, qd8] = true := by kernel_rfl
 have hts0 := hts133
 have hll : List.length [qd24, qd5, qd14, qd7, qd13, qd10, qd19, qd20, qd27, qd21, qd25, qd15, qd26, qd26, qd28, qd22, qd23, qd10, qd8, qd8] = 20 := rfl
 generalize [qd24, qd5, qd14, qd7, qd13, qd10, qd19, qd20, qd27, qd21, qd25, qd15, qd26, qd26, qd28, qd22, qd23, qd10, qd8, qd8] = LS at hpb hts0 hll
 refine WC.weaken (r' := [(4, pt b43 0), (7, pt b109 0), (113, .slice (some ⟨b133, 0, none⟩) 10 10), (114, .int .i64 10), (115, .int .i64 0)]) (s4 (sr rfl (subReg_nil _))) ?_
 refine WC.loop (σ := Nat) (fun k r_ w_ => r_ = [(4, pt b43 0), (7, pt b109 0), (113, .slice (some ⟨b133, 0, none⟩) 10 10), (114, .int .i64 10), (115, .int .i64 (k : Int))] ∧ Ext w132 w_ ∧ k ≤ 10) (fun k => 10 - k) 0 ⟨rfl, (Ext.refl _), Nat.zero_le _⟩ ?_
 rintro k r_ w138 ⟨rfl, hE136, hI137⟩
 have hzhE136 := hE136.size
 have hk := hI137
 refine sq ?_
 cases hc139 : decide (((k : Int) : Int) < 10) with
 | false =>
  refine WL.lss rfl rfl rfl rfl hc139 ?_
  have hp139 := of_decide_eq_false hc139
  refine WL.dn ?_
  refine WC.seqk ?_
  refine cF ?_
  refine WC.exit (fun a_ ha => ?_)
  refine exit_then ?_
  refine exit_then ?_
  refine exit_here ?_
  refine WC.at ?_ ha
  refine sq ?_
  have h140 := ((h126.ext hE132).ext hE136)
  refine WL.load_box rfl rfl rfl h140 Ty.agg30 ?_
  have h141 := ((h127.ext hE132).ext hE136)
  refine WL.call rfl rfl rfl Ty.ent8 (Plain_ok _ _ _ qd10 h141) ?_
  rintro _ w143 ⟨he, hE142⟩
  have hq : (Nd.clean qd10 && Nd.plain qd10) = true := (by kernel_rfl)
  rw [hq] at he
  subst he
  clear hq
  have hzhE142 := hE142.size
  refine ⟨_, rfl, ?_⟩
  refine mv ?_
  have h144 := (((hR115.ext hE132).ext hE136).ext hE142)
  refine WL.load_box rfl rfl rfl h144 Ty.agg30 ?_
  have h145 := (((h120.ext hE132).ext hE136).ext hE142)
  refine WL.call rfl rfl rfl Ty.ent8 (Plain_ok _ _ _ qd9 h145) ?_
  rintro _ w147 ⟨he, hE146⟩
  have hq : (Nd.clean qd9 && Nd.plain qd9) = false := (by kernel_rfl)
  rw [hq] at he
  subst he
  clear hq
  have hzhE146 := hE146.size
  refine ⟨_, rfl, ?_⟩
  refine WL.not rfl rfl rfl ?_
  refine pT ?_
  refine mv ?_
  have h148 := ((h140.ext hE142).ext hE146)
  refine WL.load_box rfl rfl rfl h148 Ty.agg30 ?_
  have h149 := ((h141.ext hE142).ext hE146)
  refine WL.call rfl rfl rfl Ty.ent14 (Nullable_ok _ _ _ qd10 h149) ?_
  rintro _ w151 ⟨he, hE150⟩
  have hq : (Nd.clean qd10 && Nd.nullable qd10) = true := (by kernel_rfl)
  rw [hq] at he
  subst he
  clear hq
  have hzhE150 := hE150.size
  refine ⟨_, rfl, ?_⟩
  refine pT ?_
  refine mv ?_
  have h152 := ((h144.ext hE146).ext hE150)
  refine WL.load_box rfl rfl rfl h152 Ty.agg30 ?_
  have h153 := ((h145.ext hE146).ext hE150)
  refine WL.call rfl rfl rfl Ty.ent14 (Nullable_ok _ _ _ qd9 h153) ?_
  rintro _ w155 ⟨he, hE154⟩
  have hq : (Nd.clean qd9 && Nd.nullable qd9) = false := (by kernel_rfl)
  rw [hq] at he
  subst he
  clear hq
  have hzhE154 := hE154.size
  refine ⟨_, rfl, ?_⟩
  refine WL.not rfl rfl rfl ?_
  refine pT ?_
  refine asg ?_
  refine WL.dn ?_
  refine WC.ret (fun a_ ha => ?_)
  exact bodyPost_tmp rfl ha rfl ⟨rfl, (((((((hB116.onto ((((hB96.onto (hB93.onto (((((((((hB50.onto (((hB35.onto (hB31.onto (hB27.onto ((((hE2.trans hE5).trans hE12).trans hE18).trans hE24) (by omega)) (by omega)) (by omega)).trans hE41).trans hE47) (by omega)).trans hE60).trans hE63).trans hE66).trans hE69).trans hE75).trans hE78).trans hE84).trans hE90) (by omega)) (by omega)).trans hE104).trans hE107).trans hE113) (by omega)).trans hE132).trans hE136).trans hE142).trans hE146).trans hE150).trans hE154)⟩
 | true =>
  refine WL.lss rfl rfl rfl rfl hc139 ?_
  have hp139 := of_decide_eq_true hc139
  refine WL.dn ?_
  refine WC.seqk ?_
  refine cT ?_
  refine WC.sk ?_
  refine WC.seqk ?_
  refine WC.block ?_
  refine sq ?_
  obtain ⟨t140, ht140⟩ : ∃ t, LS[2 * k]? = some t := ⟨_, List.getElem?_eq_getElem (by omega)⟩
  obtain ⟨t141, ht141⟩ : ∃ t, LS[2 * k + 1]? = some t := ⟨_, List.getElem?_eq_getElem (by omega)⟩
  obtain ⟨l140, l141, hD140, her140, hn140, hn141⟩ := (hts0.ext hE136).pair ht140 ht141
  obtain ⟨a140, cap140, rfl, hts140, hlen140⟩ := hn140.op2
  obtain ⟨a141, cap141, rfl, hts141, hlen141⟩ := hn141.op2
  refine WL.indexAddr (i := k) rfl rfl Ty.slice47 rfl rfl rfl (by omega) ?_
  refine WL.load_agg (l := tcells t140 (.slice a140 t140.subs.length cap140) ++ tcells t141 (.slice a141 t141.subs.length cap141)) rfl rfl Ty.agg46 rfl her140 ?_
  refine WL.alloc rfl rfl Ty.zero46 rfl (fun b142 w147 hb143 hE146 hs144 hR145 => ?_)
  refine WL.store_box rfl rfl rfl hR145 Ty.agg46 rfl rfl (fun w150 hB149 hR148 => ?_)
  have hzhB149 := hB149.size
  refine WL.dn ?_
  refine sq ?_
  refine WL.fieldAddr rfl rfl Ty.fld46_0 rfl ?_
  refine WL.load_part 8 rfl rfl rfl hR148 rfl Ty.agg30 ?_
  have hpk := Nd.pairB_all (Nd.pairsB_at hpb ht140 ht141)
  have h152 := ((hn140.ext hE146).bu hB149)
  refine WL.call rfl rfl rfl Ty.ent9 (Norm_okC h152 hpk.1 hpk.2.1 hpk.2.2.1) ?_
  rintro _ w154 ⟨l151, rfl, hr151, hE153⟩
  have hzhE153 := hE153.size
  refine ⟨_, rfl, ?_⟩
  have hn151 := hr151.lt
  obtain ⟨a151, cap151, rfl, hts151, hlen151⟩ := hn151.op2
  refine mv ?_
  refine WL.extract rfl rfl rfl rfl ?_
  refine WL.extract rfl rfl rfl rfl ?_
  refine WL.alloc rfl rfl Ty.zero30 rfl (fun b155 w160 hb156 hE159 hs157 hR158 => ?_)
  refine WL.store_box rfl rfl rfl hR158 Ty.agg30 rfl rfl (fun w163 hB162 hR161 => ?_)
  have hzhB162 := hB162.size
  refine asg ?_
  refine WL.dn ?_
  refine sq ?_
  refine mv ?_
  refine WL.neq rfl rfl rfl rfl rfl ?_
  refine mv ?_
  refine WL.load_box rfl rfl rfl hR161 Ty.agg30 ?_
  refine WL.fieldAddr rfl rfl Ty.fld46_1 rfl ?_
  have h164 := (hB162.row ((hR148.ext hE153).ext hE159) (by omega))
  refine WL.load_part 8 rfl rfl rfl h164 rfl Ty.agg30 ?_
  have h165 := ((hn151.ext hE159).bu hB162)
  have h166 := (((((hn141.ext hE146).bu hB149).ext hE153).ext hE159).bu hB162)
  refine WL.call rfl rfl rfl Ty.ent11 (Same_ok _ _ _ _ _ (Nd.norm t140) t141 h165 h166) ?_
  rintro _ w168 ⟨he, hE167⟩
  have hq : (Nd.light (Nd.norm t140) && Nd.light t141 && Nd.same (Nd.norm t140) t141) = true := hpk.2.2.2.2
  rw [hq] at he
  subst he
  clear hq
  have hzhE167 := hE167.size
  refine ⟨_, rfl, ?_⟩
  refine WL.not rfl rfl rfl ?_
  refine pF ?_
  refine WL.dn ?_
  refine cF ?_
  refine WC.sk ?_
  refine WC.region ?_
  refine WL.add (v := (k : Int) + 1) rfl rfl rfl rfl (IntWalk.i64_in _ (by omega)) ?_
  refine mv ?_
  refine WL.nil (fun a_ ha => ?_)
  exact ⟨k + 1, _, ha.weaken (s4 (sr rfl (subReg_nil _))), ⟨rfl, ((hB162.onto (((hB149.onto (hE136.trans hE146) (by omega)).trans hE153).trans hE159) (by omega)).trans hE167), by omega⟩, by first | omega | (dsimp only; omega)⟩
end Go.Proofs.Yteenegaadlhjdaa
namespace Go.Proofs.Yteenegaadlhjdaa
namespace Nd
theorem capture_eq {t : Nd} (h : t.nice = true) (hs : t.size ≤ 9000) : capture t = mk 6 zero 0 0 [t] := by
  have hn := group_nice h
  have hz : (mk 6 zero 0 0 [t]).size = 1 + t.size := by simp [size_mk, sizeL]
  unfold capture checked
  rw [nice_clean hn (by omega)]; rfl
end Nd
end Go.Proofs.Yteenegaadlhjdaa
namespace Go.Proofs.Yteenegaadlhjdaa
namespace Nd
def Top (y : Nd) : Prop := normK y y.subs = y
def HN (y : Nd) : Prop := ∀ x ∈ y.pre, Top x
theorem mem_preL {x : Nd} {ts : List Nd} : x ∈ preL ts ↔ ∃ t ∈ ts, x ∈ t.pre := by
  induction ts with
  | nil => simp [preL]
  | cons a l ih => simp [preL, ih]
theorem HN_iff (y : Nd) : HN y ↔ Top y ∧ ∀ u ∈ y.subs, HN u := by
  cases y with
  | mk k s mn mx ts =>
    simp only [HN, pre, List.mem_cons, mem_preL, subs]
    constructor
    · intro h
      exact ⟨h _ (.inl rfl), fun u hu x hx => h x (.inr ⟨u, hu, hx⟩)⟩
    · rintro ⟨h1, h2⟩ x (rfl | ⟨t, ht, hx⟩)
      · exact h1
      · exact h2 t ht x hx
theorem HN.norm {y : Nd} : HN y → norm y = y := by
  induction y using Nd.ind with
  | h k s mn mx ts ih =>
    intro h
    have h2 := (HN_iff _).1 h
    rw [norm_eq, show (mk k s mn mx ts).subs.map Nd.norm = (mk k s mn mx ts).subs from ?_]
    · exact h2.1
    · conv => rhs; rw [← List.map_id (mk k s mn mx ts).subs]
      exact List.map_congr_left (fun t ht => ih t ht (h2.2 t ht))
theorem Top_leaf {y : Nd} (h : y.kind < 3) : Top y := by
  unfold Top normK
  rw [show (y.kind == 6) = false from beq_eq_false_iff_ne.2 (by omega), show (y.kind == 5) = false from beq_eq_false_iff_ne.2 (by omega), show (y.kind == 3) = false from beq_eq_false_iff_ne.2 (by omega), show (y.kind == 4) = false from beq_eq_false_iff_ne.2 (by omega)]
  rfl
theorem HN_leaf {y : Nd} (h : y.nice = true) (hk : y.kind < 3) : HN y := by
  refine (HN_iff y).2 ⟨Top_leaf hk, fun u hu => ?_⟩
  rw [(right_cases (nice_right h)).2.2.1 hk] at hu; cases hu
theorem HN_empty : HN empty := HN_leaf rfl (by decide)
def R (b : Bd) (y : Nd) : Nd := mk 5 zero b.1 b.2 [y]
theorem R_inj {b c : Bd} {y z : Nd} (h : R b y = R c z) : b = c ∧ y = z := by
  unfold R at h
  simp only [mk.injEq, List.cons.injEq, and_true, true_and] at h
  exact ⟨Prod.ext h.1 h.2.1, h.2.2⟩
theorem R_size (b : Bd) (y : Nd) : (R b y).size = 1 + y.size := by simp [R, size_mk, sizeL]
theorem R_ne (b : Bd) (y : Nd) : y ≠ R b y := fun h => by have := congrArg size h; rw [R_size] at this; omega
theorem sub0_R (b : Bd) (y : Nd) : sub0 (R b y) = y := rfl
theorem bof_R (b : Bd) (y : Nd) : bof (R b y) = b := rfl
theorem R_form {y : Nd} (h : Ok3 y) (hk : y.kind = 5) : ∃ b s, y = R b s ∧ Ok3 s ∧ s.kind ≠ 1 ∧ bounds b.1 b.2 = true := by
  have h5 := right_five (nice_right h.1) hk
  have hc := right_cases (nice_right h.1)
  obtain ⟨k, st, mn, mx, ts⟩ := y
  simp only [kind] at hk; subst hk
  have hz : st = zero := hc.1 (by show (5 : Int) ≠ 2; decide)
  subst hz
  obtain ⟨h1, h2, h3⟩ := h5
  simp only [subs] at h1
  obtain ⟨s, rfl⟩ := List.length_eq_one_iff.1 h1
  exact ⟨(mn, mx), s, rfl, h.subs (u := s) (by simp [subs]), has_false h3 s (by simp [subs]), h2⟩
theorem timesB_R {y : Nd} {b : Bd} (h : Ok3 y) (hs : y.size ≤ 1000) (hk : y.kind ≠ 1) (hb : bounds b.1 b.2 = true) : timesB y b = R b y := by
  have h1 := (bounds_iff _ _).1 hb
  exact times_rep ⟨h.1, hs⟩ ⟨h1.1.1, h1.1.2, by omega⟩ hk (by omega) h1.2.1
theorem timesN_emp {y : Nd} {b : Bd} (h : Ok3 y) (hk : y.kind = 1) (hb : bounds b.1 b.2 = true) : timesN y b = empty := by
  have h1 := (bounds_iff _ _).1 hb
  have h2 : timesB y b = empty := times_empty ⟨h.1, by rw [right_empty (nice_right h.1) hk]; decide⟩ ⟨h1.1.1, h1.1.2, by omega⟩ (.inl hk)
  unfold timesN; rw [h2]; rfl
def isS (y : Nd) : Bool := (y.kind == 5) && simple (bof y)
theorem timesN_eq {y : Nd} {b : Bd} (h : Ok3 y) (hs : y.size ≤ 1000) (hk : y.kind ≠ 1) (hb : bounds b.1 b.2 = true) :
    timesN y b = bif !y.plain then R b y else bif (b == opt) && y.nullable then y else bif simple b && isS y then R (bif (b != bof y) || (b == star) then star else b) (sub0 y) else bif (b == plus) && y.nullable then R star y else R b y := by
  unfold timesN
  rw [timesB_R h hs hk hb, show ((R b y).kind != 5) = false from rfl, show times y 0 (-1) = R star y from timesB_R (b := star) h hs hk (by decide)]
  simp only [Bool.false_or]
  rw [show ((y.kind == 5) && simple b && simple (bof y)) = (simple b && isS y) by unfold isS; cases simple b <;> cases (y.kind == 5) <;> simp]
  cases hq : simple b && isS y
  · rfl
  · have hh : y.kind = 5 := by unfold isS at hq; simp only [Bool.and_eq_true, beq_iff_eq] at hq; exact hq.2.1
    obtain ⟨c, s, rfl, ok, hk1, hc⟩ := R_form h hh
    rw [R_size] at hs
    rw [show timesB (sub0 (R c s)) (bif (b != bof (R c s)) || (b == star) then star else b) = _ from timesB_R (by exact ok) (by show s.size ≤ _; omega) (by exact hk1) (cond_p (fun z : Bd => bounds z.1 z.2 = true) (by decide) hb)]
theorem simple_bounds {b : Bd} (h : simple b = true) : bounds b.1 b.2 = true := by
  simp only [simple, Bool.or_eq_true, beq_iff_eq] at h
  rcases h with (rfl | rfl) | rfl <;> decide
theorem R_under {c : Bd} {s : Nd} (h : Top (R c s)) (ok : Ok3 s) (hs : s.size ≤ 1000) (hk : s.kind ≠ 1) (hp : s.plain = true) (hc : simple c = true) :
    isS s = false ∧ (c = opt → s.nullable = false) ∧ (c = plus → s.nullable = false) := by
  have h1 : timesN s c = R c s := h
  rw [timesN_eq ok hs hk (simple_bounds hc), hp, hc] at h1
  simp only [Bool.not_true, cond_false, Bool.true_and] at h1
  cases h2 : (c == opt) && s.nullable <;> rw [h2] at h1
  · simp only [cond_false] at h1
    cases h3 : isS s <;> rw [h3] at h1
    · simp only [cond_false] at h1
      refine ⟨rfl, fun e => ?_, fun e => ?_⟩
      · subst e; simpa using h2
      · subst e
        cases h4 : s.nullable
        · rfl
        · rw [h4] at h1
          exact absurd (R_inj h1).1 (by decide)
    · simp only [cond_true] at h1
      have hh := (R_inj h1).2
      have h5 : s.kind = 5 := by unfold isS at h3; simp only [Bool.and_eq_true, beq_iff_eq] at h3; exact h3.1
      obtain ⟨b, t, rfl, _⟩ := R_form ok h5
      rw [sub0_R] at hh
      exact absurd hh (R_ne _ _)
  · exact absurd h1 (R_ne _ _)
theorem R_stays {c : Bd} {s : Nd} (ok : Ok3 s) (hs : s.size ≤ 1000) (hk : s.kind ≠ 1) (hc : simple c = true) (h1 : isS s = false) (h2 : c = opt → s.nullable = false) (h3 : c = plus → s.nullable = false) : timesN s c = R c s := by
  rw [timesN_eq ok hs hk (simple_bounds hc), h1]
  simp only [Bool.and_false, cond_false]
  have e2 : ((c == opt) && s.nullable) = false := by
    cases h : (c == opt)
    · rfl
    · rw [h2 (by simpa using h)]; rfl
  have e3 : ((c == plus) && s.nullable) = false := by
    cases h : (c == plus)
    · rfl
    · rw [h3 (by simpa using h)]; rfl
  rw [e2, e3]
  simp
theorem R_HN {c : Bd} {s : Nd} (h : HN s) (ht : timesN s c = R c s) : HN (R c s) := by
  refine (HN_iff _).2 ⟨?_, fun u hu => ?_⟩
  · show timesN s c = R c s; exact ht
  · simp [R, subs] at hu; subst hu; exact h
theorem isS_form {y : Nd} (ok : Ok3 y) (h : isS y = true) : ∃ c s, y = R c s ∧ simple c = true ∧ Ok3 s ∧ s.kind ≠ 1 := by
  unfold isS at h
  simp only [Bool.and_eq_true, beq_iff_eq] at h
  obtain ⟨c, s, rfl, o, k, _⟩ := R_form ok h.1
  exact ⟨c, s, rfl, h.2, o, k⟩
theorem R_plain (c : Bd) (s : Nd) : (R c s).plain = s.plain := by
  rw [plain_eq]; simp [R, kind, subs]
theorem timesN_HN {y : Nd} {b : Bd} (h : HN y) (ok : Ok3 y) (hs : y.size ≤ 1000) (hb : bounds b.1 b.2 = true) : HN (timesN y b) := by
  by_cases hk : y.kind = 1
  · rw [timesN_emp ok hk hb]; exact HN_empty
  have he := timesN_eq ok hs hk hb
  cases hp : y.plain
  · rw [hp] at he
    have he : timesN y b = R b y := he
    rw [he]; exact R_HN h he
  rw [hp] at he
  simp only [Bool.not_true, cond_false] at he
  cases h1 : (b == opt) && y.nullable <;> rw [h1] at he
  · simp only [cond_false] at he
    cases h2 : simple b && isS y <;> rw [h2] at he
    · simp only [cond_false] at he
      cases h3 : (b == plus) && y.nullable <;> rw [h3] at he
      · simp only [cond_false] at he
        rw [he]; exact R_HN h he
      · simp only [cond_true] at he
        simp only [Bool.and_eq_true, beq_iff_eq] at h3
        obtain ⟨rfl, hn⟩ := h3
        rw [he]
        exact R_HN h (R_stays ok hs hk (by decide) h2 (fun e => absurd e (by decide)) (fun e => absurd e (by decide)))
    · simp only [cond_true] at he
      simp only [Bool.and_eq_true] at h2
      obtain ⟨c, s, rfl, hc, oks, hks⟩ := isS_form ok h2.2
      rw [R_size] at hs
      rw [R_plain] at hp
      have hh := (HN_iff _).1 h
      have hu := R_under hh.1 oks (by omega) hks hp hc
      rw [he, sub0_R, bof_R]
      have hsn : HN s := hh.2 s (by simp [R, subs])
      cases hq : (b != c) || (b == star)
      · simp only [cond_false]
        simp only [Bool.or_eq_false_iff, bne_eq_false_iff_eq] at hq
        rw [hq.1]; exact h
      · show HN (R star s)
        exact R_HN hsn (R_stays oks (by omega) hks (by decide) hu.1 (fun e => absurd e (by decide)) (fun e => absurd e (by decide)))
  · simp only [cond_true] at he
    rw [he]; exact h
theorem capture_HN {y : Nd} (h : HN y) (ok : y.nice = true) (hs : y.size ≤ 9000) : HN (capture y) := by
  rw [capture_eq ok hs]
  refine (HN_iff _).2 ⟨capture_eq ok hs, fun u hu => ?_⟩
  simp [subs] at hu; subst hu; exact h
theorem flat1_HN {kd wo : Int} {t : Nd} (h : HN t) : ∀ u ∈ flat1 kd wo t, HN u := by
  intro u hu
  unfold flat1 at hu
  cases h1 : (t.kind == kd) <;> rw [h1] at hu
  · cases h2 : (t.kind == wo) <;> rw [h2] at hu
    · simp at hu; subst hu; exact h
    · cases hu
  · exact ((HN_iff t).1 h).2 u hu
theorem flat_HN {kd wo : Int} {l : List Nd} (h : ∀ t ∈ l, HN t) : ∀ u ∈ flat kd wo l, HN u := by
  intro u hu
  obtain ⟨t, ht, hm⟩ := List.mem_flatMap.1 hu
  exact flat1_HN (h t ht) u hm
def PN (kd : Int) (n : Nd) : Prop := (n.kind = kd → ∀ u ∈ n.subs, HN u) ∧ (n.kind ≠ kd → HN n)
theorem mkJ_PN {kd : Int} {l : List Nd} {e : Nd} (hl : ∀ t ∈ l, HN t) (hk : ∀ t ∈ l, t.kind ≠ kd) (he : l = [] → HN e ∧ e.kind ≠ kd) : PN kd (mkJ kd l e) := by
  match l, hl, hk, he with
  | [], _, _, he => exact ⟨fun h => absurd h (he rfl).2, fun _ => (he rfl).1⟩
  | [x], hl, hk, _ => exact ⟨fun h => absurd h (hk x (by simp)), fun _ => hl x (by simp)⟩
  | x :: y :: l, hl, _, _ => exact ⟨fun _ => hl, fun h => absurd rfl h⟩
theorem seq_PN {l : List Nd} (h : ∀ t ∈ l, Ok3 t ∧ t.size ≤ 1000) (hs : sizeL l ≤ 9999) (hl : ∀ t ∈ l, HN t) : PN 3 (seq l) := by
  rw [seq_eq (fun t ht => ⟨(h t ht).1.1, (h t ht).2⟩) hs]
  exact mkJ_PN (flat_HN hl) (fun t ht => (flat_norm two3 (fun t ht => .inl (h t ht).1.1) t ht).2.1) (fun _ => ⟨HN_empty, by decide⟩)
theorem or_PN {l : List Nd} (h : ∀ t ∈ l, Ok3 t ∧ t.size ≤ 1000) (hs : sizeL l ≤ 9999) (hne : l ≠ []) (hl : ∀ t ∈ l, HN t) : PN 4 (or l) := by
  rw [or_eq (fun t ht => .inl ⟨(h t ht).1.1, (h t ht).2⟩) hs]
  refine mkJ_PN (flat_HN hl) (fun t ht => (flat_norm two4 (fun t ht => .inl (h t ht).1.1) t ht).2.1) (fun h0 => ?_)
  cases l with
  | nil => exact absurd rfl hne
  | cons x l =>
    simp only [flat, List.flatMap_cons, List.append_eq_nil_iff] at h0
    exact absurd h0.1 (flat1_alt_ne (h x (by simp)).1.1)
theorem merged_HN {x y o : Nd} (hx : Ok3 x) (hy : Ok3 y) (sx : x.size ≤ 1000) (sy : y.size ≤ 1000) (nx : HN x) (ny : HN y) (h : merged x y = some o) : HN o := by
  unfold merged at h
  cases h1 : (!x.plain || !y.plain) <;> rw [h1] at h <;> simp only [cond_true, cond_false] at h
  · cases h2 : isStar y x <;> rw [h2] at h <;> simp only [cond_true, cond_false] at h
    · cases h3 : isStar x y <;> rw [h3] at h <;> simp only [cond_true, cond_false] at h
      · revert h
        generalize (Same2 x y && (x.kind == 5) && (bof x == star)) = b
        cases b <;> intro h
        · simp at h
        · simp at h; subst h; exact nx
      · cases h; exact timesN_HN ny hy sy (by decide)
    · cases h; exact timesN_HN nx hx sx (by decide)
  · simp at h
theorem mstep_HN {l l' : List Nd} (hl : ∀ t ∈ l, Ok3 t ∧ t.size ≤ 1000) (hn : ∀ t ∈ l, HN t) (h : mstep l = some l') : ∀ t ∈ l', HN t := by
  induction l generalizing l' with
  | nil => simp [mstep] at h
  | cons a l ih =>
    cases l with
    | nil => simp [mstep] at h
    | cons b r =>
      simp only [mstep] at h
      cases hm : merged a b with
      | some m =>
        rw [hm] at h; simp only [Option.some.injEq] at h; subst h
        intro t ht
        rcases List.mem_cons.1 ht with rfl | ht
        · exact merged_HN (hl a (by simp)).1 (hl b (by simp)).1 (hl a (by simp)).2 (hl b (by simp)).2 (hn a (by simp)) (hn b (by simp)) hm
        · exact hn t (by simp [ht])
      | none =>
        rw [hm] at h
        simp only [Option.map_eq_some_iff] at h
        obtain ⟨q, hq, rfl⟩ := h
        intro t ht
        rcases List.mem_cons.1 ht with rfl | ht
        · exact hn _ (by simp)
        · exact ih (fun t ht => hl t (by simp [ht])) (fun t ht => hn t (by simp [ht])) hq t ht
theorem flat_id {kd wo : Int} {l : List Nd} (h : ∀ t ∈ l, t.kind ≠ kd ∧ t.kind ≠ wo) : flat kd wo l = l := by
  induction l with
  | nil => rfl
  | cons x l ih =>
    have h1 := h x (by simp)
    have : flat1 kd wo x = [x] := by unfold flat1; rw [beq_eq_false_iff_ne.2 h1.1, beq_eq_false_iff_ne.2 h1.2]; rfl
    simp only [flat, List.flatMap_cons, this] at *
    rw [ih (fun t ht => h t (by simp [ht]))]; rfl
theorem kd_form {t : Nd} {kd : Int} (h : t.right = true) (hk : t.kind = kd) (h5 : kd ≠ 5) (h2 : kd ≠ 2) : t = mk kd zero 0 0 t.subs := by
  have h3 := right_three h hk h5 h2
  obtain ⟨k, s, mn, mx, ts⟩ := t
  simp only [kind, set, least, most, subs] at *
  rw [hk, h3.1, h3.2.1, h3.2.2]
theorem mkJ_two {kd : Int} {l : List Nd} {e : Nd} (h : 1 < l.length) : mkJ kd l e = mk kd zero 0 0 l := by
  match l, h with
  | x :: y :: l, _ => rfl
theorem seq_subs {n : Nd} (ok : Ok3 n) (hs : n.size ≤ 1000) (hk : n.kind = 3) : seq n.subs = n := by
  have hc := right_cat (nice_right ok.1) hk
  have hz := size_subs n
  rw [seq_eq (fun t ht => ⟨(ok.subs ht).1, by have := size_le_sizeL ht; omega⟩) (by omega), flat_id (fun t ht => ⟨has_false hc.2.2 t ht, has_false hc.2.1 t ht⟩), mkJ_two hc.1]
  exact (kd_form (nice_right ok.1) hk (by decide) (by decide)).symm
theorem catF_HN {n : Nd} (h : PN 3 n) (ok : Ok3 n) (hs : n.size ≤ 1000) : HN (catF n) := by
  induction hz : n.size using Nat.strongRecOn generalizing n with
  | _ s ih =>
    by_cases hk : n.kind = 3
    · cases hm : mstep n.subs with
      | none =>
        rw [catF_none hm]
        refine (HN_iff n).2 ⟨?_, h.1 hk⟩
        show normK n n.subs = n
        unfold normK
        rw [hk]
        show cat n.subs = n
        unfold cat
        rw [seq_subs ok hs hk]; exact catF_none hm
      | some l =>
        rw [catF_some hk ok.1 hm]
        have h1 := mstep_sz (fun t ht => nice_subs ok.1 ht) hm
        have h2 := seq_sz l
        have h3 := size_subs n
        have h4 := mstep_ok3 (fun t ht => ok.subs ht) (by omega) hm
        have h5 : ∀ t ∈ l, Ok3 t ∧ t.size ≤ 1000 := fun t ht => ⟨h4 t ht, by have := size_le_sizeL ht; omega⟩
        exact ih (seq l).size (by omega) (seq_PN h5 (by omega) (mstep_HN (fun t ht => ⟨ok.subs ht, by have := size_le_sizeL ht; omega⟩) (h.1 hk) hm)) (seq_ok3 h5 (by omega)) (by omega) rfl
    · rw [catF_not hk]; exact h.2 hk
theorem cat_HN {l : List Nd} (h : ∀ t ∈ l, Ok3 t) (hs : sizeL l ≤ 999) (hl : ∀ t ∈ l, HN t) : HN (cat l) := by
  have h5 : ∀ t ∈ l, Ok3 t ∧ t.size ≤ 1000 := fun t ht => ⟨h t ht, by have := size_le_sizeL ht; omega⟩
  exact catF_HN (seq_PN h5 (by omega) hl) (seq_ok3 h5 (by omega)) (by have := seq_sz l; omega)
end Nd
end Go.Proofs.Yteenegaadlhjdaa
namespace Go.Proofs.Yteenegaadlhjdaa
namespace Nd
def SA (l : List Nd) : Prop := l.Pairwise (fun a b => cmpN a b < 0)
theorem SA_ext {l l' : List Nd} (hl : ∀ t ∈ l, Ok2 t) (h : SA l) (h' : SA l') (hm : ∀ t, t ∈ l ↔ t ∈ l') : l = l' := by
  have O := cmpN_ord
  induction l generalizing l' with
  | nil =>
    cases l' with
    | nil => rfl
    | cons y l' => exact absurd ((hm y).2 (by simp)) (by simp)
  | cons x l ih =>
    cases l' with
    | nil => exact absurd ((hm x).1 (by simp)) (by simp)
    | cons y l' =>
      have p := List.pairwise_cons.1 h
      have p' := List.pairwise_cons.1 h'
      have hx := hl x (by simp)
      have hy := hl y ((hm y).2 (by simp))
      have e : x = y := by
        rcases List.mem_cons.1 ((hm x).1 (by simp)) with e | e
        · exact e
        · rcases List.mem_cons.1 ((hm y).2 (by simp)) with q | q
          · exact q.symm
          · have h1 := p.1 y q
            have h2 := p'.1 x e
            have := O.anti x y hx hy
            omega
      subst e
      have irr : cmpN x x = 0 := (O.eq x x hx hx).2 rfl
      refine congrArg (x :: ·) (ih (fun t ht => hl t (by simp [ht])) p.2 p'.2 (fun t => ?_))
      constructor
      · intro ht
        rcases List.mem_cons.1 ((hm t).1 (by simp [ht])) with e | e
        · subst e; have := p.1 t ht; omega
        · exact e
      · intro ht
        rcases List.mem_cons.1 ((hm t).2 (by simp [ht])) with e | e
        · subst e; have := p'.1 t ht; omega
        · exact e
theorem dd_all {l : List Nd} : ∀ {p t : Nd}, t ∈ l → t = p ∨ t ∈ dd p l := by
  induction l with
  | nil => intro p t h; cases h
  | cons y l ih =>
    intro p t h
    simp only [dd]
    cases hc : Same2 y p
    · simp only [cond_false]
      rcases List.mem_cons.1 h with rfl | h
      · exact .inr (by simp)
      · rcases ih (p := y) h with rfl | h
        · exact .inr (by simp)
        · exact .inr (by simp [h])
    · simp only [cond_true]
      have e := Same2_eq hc
      rcases List.mem_cons.1 h with rfl | h
      · exact .inl e
      · rcases ih (p := y) h with rfl | h
        · exact .inl e
        · exact .inr h
theorem compactT_iff (l : List Nd) (t : Nd) : t ∈ compactT l ↔ t ∈ l := by
  refine ⟨compactT_mem, fun h => ?_⟩
  cases l with
  | nil => exact h
  | cons x l =>
    simp only [compactT, List.mem_cons]
    rcases List.mem_cons.1 h with h | h
    · exact .inl h
    · exact dd_all h
theorem Same2_self {t : Nd} (h : t.light = true) : Same2 t t = true := by unfold Same2; rw [h, same_self]; rfl
theorem dd_SA {l : List Nd} : ∀ {p : Nd}, (∀ t ∈ p :: l, Ok2 t ∧ t.light = true) → (p :: l).Pairwise (fun a b => cmpN a b ≤ 0) → SA (p :: dd p l) := by
  have O := cmpN_ord
  induction l with
  | nil => intro p _ _; exact List.pairwise_singleton _ _
  | cons y l ih =>
    intro p hl h
    have hp := List.pairwise_cons.1 h
    have hq := List.pairwise_cons.1 hp.2
    have h1 := ih (p := y) (fun t ht => hl t (List.mem_cons_of_mem _ ht)) hp.2
    have okp := (hl p (by simp)).1
    have oky := (hl y (by simp)).1
    simp only [dd]
    cases hc : Same2 y p
    · simp only [cond_false]
      have hlt : cmpN p y < 0 := by
        have h2 := hp.1 y (by simp)
        have h3 : cmpN p y ≠ 0 := fun e => by
          have := (O.eq p y okp oky).1 e
          subst this
          rw [Same2_self (hl p (by simp)).2] at hc; cases hc
        omega
      refine List.pairwise_cons.2 ⟨fun t ht => ?_, h1⟩
      rcases List.mem_cons.1 ht with rfl | ht
      · exact hlt
      · have hmem : t ∈ l := dd_mem ht
        have okt := (hl t (by simp [hmem])).1
        have h4 := (List.pairwise_cons.1 h1).1 t ht
        have h5 := O.trans p y t okp oky okt (by omega) (by omega)
        have h6 : cmpN p t ≠ 0 := fun e => by have := (O.lt okp oky okt (by omega) (by omega) e).1; omega
        omega
    · simp only [cond_true]
      have e := Same2_eq hc
      subst e
      exact h1
theorem compactT_SA {l : List Nd} (hl : ∀ t ∈ l, Ok2 t ∧ t.light = true) : SA (compactT (sortT l)) := by
  have h := sortT_pw (fun t ht => (hl t ht).1)
  have hm : ∀ t ∈ sortT l, Ok2 t ∧ t.light = true := fun t ht => hl t ((sortT_perm l).mem_iff.1 ht)
  generalize sortT l = s at h hm
  cases s with
  | nil => exact List.Pairwise.nil
  | cons x s => exact dd_SA hm h
theorem cs_ext {l l' : List Nd} (hl : ∀ t ∈ l, Ok2 t ∧ t.light = true) (hm : ∀ t, t ∈ l ↔ t ∈ l') : compactT (sortT l) = compactT (sortT l') := by
  have hl' : ∀ t ∈ l', Ok2 t ∧ t.light = true := fun t ht => hl t ((hm t).2 ht)
  have e : ∀ (l : List Nd) t, t ∈ compactT (sortT l) ↔ t ∈ l := fun l t => (compactT_iff _ t).trans (sortT_perm l).mem_iff
  exact SA_ext (fun t ht => (hl t ((e l t).1 ht)).1) (compactT_SA hl) (compactT_SA hl') (fun t => by rw [e, e]; exact hm t)
theorem sbit_zero (c : Nat) : sbit zero c = false := by
  have hz : sbit zero c = (BitVec.ofInt 64 0).getLsbD (c % 64) := by unfold sbit wbit S4get; split <;> rfl
  rw [hz]; simp
theorem altS_bit (l : List Nd) (c : Nat) : sbit (altS l) c = l.any fun x => (x.kind == 2) && sbit x.set c := by
  have : ∀ (l : List Nd) (s : S4), sbit (l.foldl (fun s x => bif x.kind == 2 then orS s x.set else s) s) c = (sbit s c || l.any fun x => (x.kind == 2) && sbit x.set c) := by
    intro l
    induction l with
    | nil => intro s; simp
    | cons x l ih =>
      intro s
      rw [List.foldl_cons, ih, List.any_cons]
      cases hk : (x.kind == 2)
      · simp
      · simp only [cond_true, Bool.true_and, sbit_or, Bool.or_assoc]
  unfold altS
  rw [this, sbit_zero, Bool.false_or]
theorem any_ext {l l' : List Nd} (h : ∀ t, t ∈ l ↔ t ∈ l') (p : Nd → Bool) : l.any p = l'.any p := by
  rw [Bool.eq_iff_iff, List.any_eq_true, List.any_eq_true]
  exact ⟨fun ⟨x, hx, hp⟩ => ⟨x, (h x).1 hx, hp⟩, fun ⟨x, hx, hp⟩ => ⟨x, (h x).2 hx, hp⟩⟩
theorem altS_ext {l l' : List Nd} (h : ∀ t, t ∈ l ↔ t ∈ l') : altS l = altS l' :=
  s_ext (altS_ok l) (altS_ok l') (fun c _ => by rw [altS_bit, altS_bit]; exact any_ext h _)
theorem altO_iff (l : List Nd) (t : Nd) : t ∈ altO l ↔ t ∈ l ∧ t.kind ≠ 2 ∧ t.kind ≠ 1 := by
  unfold altO
  rw [List.mem_filter]
  simp
theorem altL_iff (l : List Nd) (t : Nd) : t ∈ altL l ↔ (t ∈ l ∧ t.kind ≠ 2 ∧ t.kind ≠ 1) ∨ (t = ofS (altS l) ∧ t.kind = 2) := by
  unfold altL
  cases h : ((ofS (altS l)).kind == 2)
  · simp only [cond_false, altO_iff]
    refine ⟨.inl, fun h1 => h1.resolve_right (fun h2 => ?_)⟩
    rw [← h2.1] at h
    exact (beq_eq_false_iff_ne.1 h) h2.2
  · simp only [cond_true, List.mem_append, altO_iff, List.mem_singleton]
    refine ⟨fun h1 => h1.imp id (fun h2 => ⟨h2, by rw [h2]; exact beq_iff_eq.1 h⟩), fun h1 => h1.imp id And.left⟩
theorem altL_ext {l l' : List Nd} (h : ∀ t, t ∈ l ↔ t ∈ l') (t : Nd) : t ∈ altL l ↔ t ∈ altL l' := by
  rw [altL_iff, altL_iff, altS_ext h, h t]
theorem altR_ext {l l' : List Nd} (hl : ∀ t ∈ altL l, Ok2 t ∧ t.light = true) (h : ∀ t, t ∈ l ↔ t ∈ l') : altR l = altR l' := by
  have h1 : altE l = altE l' := any_ext h _
  have h2 : altM l = altM l' := by unfold altM; rw [cs_ext hl (altL_ext h)]
  unfold altR; rw [h1, h2]
structure Alts (l : List Nd) : Prop where
  ok : ∀ t ∈ l, Ok3 t
  sz : sizeL l ≤ 999
  kd : ∀ t ∈ l, t.kind ≠ 4 ∧ t.kind ≠ 0
theorem Alts.small {l : List Nd} (h : Alts l) : ∀ t ∈ l, t.size ≤ 1000 := fun t ht => by have := size_le_sizeL ht; have := h.sz; omega
theorem Alts.altL {l : List Nd} (h : Alts l) : ∀ t ∈ altL l, Ok2 t ∧ t.light = true := by
  intro t ht
  rcases (altL_iff l t).1 ht with ⟨h1, _⟩ | ⟨rfl, h2⟩
  · exact ⟨h.ok t h1, by have := h.small t h1; simp [light]; omega⟩
  · exact ofS_ok2 (altS_ok l) (beq_iff_eq.2 h2)
theorem Alts.altL_kd {l : List Nd} (h : Alts l) : ∀ t ∈ Nd.altL l, t.kind ≠ 4 ∧ t.kind ≠ 0 ∧ t.kind ≠ 1 := by
  intro t ht
  rcases (altL_iff l t).1 ht with ⟨h1, h2⟩ | ⟨_, h2⟩
  · exact ⟨(h.kd t h1).1, (h.kd t h1).2, h2.2⟩
  · omega
theorem altM_list (l : List Nd) (t : Nd) : t ∈ compactT (sortT (altL l)) ↔ t ∈ altL l := (compactT_iff _ t).trans (sortT_perm _).mem_iff
theorem Alts.C {l : List Nd} (h : Alts l) : Alts (compactT (sortT (Nd.altL l))) := by
  refine ⟨fun t ht => (h.altL t ((altM_list l t).1 ht)).1, ?_, fun t ht => ?_⟩
  · have h1 := compactT_sz (sortT (Nd.altL l))
    have h2 := sizeL_perm (sortT_perm (Nd.altL l))
    have h3 := altL_sz l
    have := h.sz
    omega
  · have := h.altL_kd t ((altM_list l t).1 ht); exact ⟨this.1, this.2.1⟩
theorem Alts.or {l : List Nd} (h : Alts l) : Nd.or l = mkJ 4 l none := by
  rw [or_eq (fun t ht => .inl ⟨(h.ok t ht).1, h.small t ht⟩) (by have := h.sz; omega), flat_id h.kd]
theorem altM_eq {l : List Nd} (h : Alts l) : altM l = mkJ 4 (compactT (sortT (altL l))) none := h.C.or
theorem altC_iff {l : List Nd} (h : Alts l) (t : Nd) : t ∈ altL (compactT (sortT (altL l))) ↔ t ∈ altL l := by
  have hs : ∀ c, sbit (altS (compactT (sortT (altL l)))) c = ((ofS (altS l)).kind == 2 && sbit (altS l) c) := by
    intro c
    rw [altS_bit, any_ext (altM_list l), Bool.eq_iff_iff, List.any_eq_true]
    constructor
    · rintro ⟨x, hx, hp⟩
      simp only [Bool.and_eq_true, beq_iff_eq] at hp ⊢
      rcases (altL_iff l x).1 hx with ⟨_, h2⟩ | ⟨rfl, h2⟩
      · exact absurd hp.1 h2.1
      · refine ⟨h2, ?_⟩
        have := hp.2
        revert this h2
        unfold ofS
        cases hz : (altS l == zero)
        · intro _ h; exact h
        · intro h; exact absurd (show Nd.none.kind = 2 from h) (by decide)
    · intro hp
      simp only [Bool.and_eq_true, beq_iff_eq] at hp
      refine ⟨ofS (altS l), (altL_iff l _).2 (.inr ⟨rfl, hp.1⟩), ?_⟩
      simp only [Bool.and_eq_true, beq_iff_eq]
      refine ⟨hp.1, ?_⟩
      have h1 := hp.1
      have h2 := hp.2
      revert h1
      unfold ofS
      cases hz : (altS l == zero)
      · intro _; exact h2
      · intro h; exact absurd (show Nd.none.kind = 2 from h) (by decide)
  cases hc : ((ofS (altS l)).kind == 2)
  · have e : altS (compactT (sortT (altL l))) = zero := s_ext (altS_ok _) sok_zero (fun c _ => by rw [hs, hc, sbit_zero]; rfl)
    rw [altL_iff, e]
    constructor
    · rintro (⟨h1, _⟩ | ⟨rfl, h2⟩)
      · exact (altM_list l t).1 h1
      · exact absurd h2 (by decide)
    · intro h1
      refine .inl ⟨(altM_list l t).2 h1, ?_, (h.altL_kd t h1).2.2⟩
      rcases (altL_iff l t).1 h1 with ⟨_, h2⟩ | ⟨rfl, h2⟩
      · exact h2.1
      · rw [h2] at hc; exact absurd hc (by decide)
  · have e : altS (compactT (sortT (altL l))) = altS l := s_ext (altS_ok _) (altS_ok _) (fun c _ => by rw [hs, hc]; rfl)
    rw [altL_iff, e, altM_list]
    constructor
    · rintro (⟨h1, _⟩ | ⟨rfl, h2⟩)
      · exact h1
      · exact (altL_iff l _).2 (.inr ⟨rfl, h2⟩)
    · intro h1
      rcases (altL_iff l t).1 h1 with ⟨h2, h3⟩ | h2
      · exact .inl ⟨h1, h3⟩
      · exact .inr h2
theorem Alts.altM_C {l : List Nd} (h : Alts l) : altM (compactT (sortT (Nd.altL l))) = altM l := by
  unfold altM
  rw [cs_ext h.C.altL (altC_iff h)]
theorem Alts.altE_C {l : List Nd} (h : Alts l) : altE (compactT (sortT (Nd.altL l))) = false := by
  unfold altE
  rw [List.any_eq_false]
  intro t ht
  have := (h.altL_kd t ((altM_list l t).1 ht)).2.2
  simpa using this
theorem Alts.altR_C {l : List Nd} (h : Alts l) : altR (compactT (sortT (Nd.altL l))) = altM l := by
  unfold altR
  rw [h.altE_C, h.altM_C]; rfl
theorem plain_iff (t : Nd) : t.plain = true ↔ t.kind ≠ 6 ∧ ∀ u ∈ t.subs, u.plain = true := by
  rw [plain_eq]
  simp
theorem ofS_plain (s : S4) : (ofS s).plain = true := by
  unfold ofS
  exact cond_p (fun z : Nd => z.plain = true) rfl rfl
theorem altL_plain {l : List Nd} (h : ∀ t ∈ l, t.plain = true) : ∀ t ∈ altL l, t.plain = true := by
  intro t ht
  rcases (altL_iff l t).1 ht with ⟨h1, _⟩ | ⟨rfl, _⟩
  · exact h t h1
  · exact ofS_plain _
def Dist (l : List Nd) : Prop := l.Pairwise (fun m x => x.plain = true → Same2 x m = false)
theorem capStep_Dist {acc : List Nd} {x : Nd} (h : Dist acc) : Dist (capStep acc x) := by
  unfold capStep
  cases hc : (!x.plain || !(acc.any fun m => Same2 x m))
  · exact h
  · refine List.pairwise_append.2 ⟨h, List.pairwise_singleton _ _, fun m hm y hy hp => ?_⟩
    simp only [List.mem_singleton] at hy; subst hy
    rw [hp] at hc
    simp only [Bool.not_true, Bool.false_or, Bool.not_eq_true'] at hc
    have := (List.any_eq_false.1 hc) m hm
    simpa using this
theorem foldl_Dist (l : List Nd) : ∀ acc, Dist acc → Dist (l.foldl capStep acc) := by
  induction l with
  | nil => intro acc h; exact h
  | cons x l ih => intro acc h; exact ih _ (capStep_Dist h)
theorem foldl_id (l : List Nd) : ∀ acc, Dist (acc ++ l) → l.foldl capStep acc = acc ++ l := by
  induction l with
  | nil => intro acc _; simp
  | cons x l ih =>
    intro acc h
    have hs : capStep acc x = acc ++ [x] := by
      unfold capStep
      cases hp : x.plain
      · rfl
      · have : (acc.any fun m => Same2 x m) = false := by
          rw [List.any_eq_false]
          intro m hm
          have := (List.pairwise_append.1 h).2.2 m hm x (by simp) hp
          simpa using this
        rw [this]; rfl
    rw [List.foldl_cons, hs, ih]
    · simp
    · simpa using h
theorem capL_idem (l : List Nd) : capL (capL l) = capL l := by
  have h : Dist (capL l) := foldl_Dist l [] List.Pairwise.nil
  have := foldl_id (capL l) [] (by simpa using h)
  simpa [capL] using this
theorem capL_mem {l : List Nd} {t : Nd} (h : t ∈ capL l) : t ∈ l := (foldl_cap_mem l [] t h).resolve_left (by simp)
theorem foldl_keeps (l : List Nd) : ∀ acc t, t ∈ acc → t ∈ l.foldl capStep acc := by
  induction l with
  | nil => intro acc t h; exact h
  | cons x l ih =>
    intro acc t h
    refine ih _ t ?_
    unfold capStep
    exact cond_p (fun z : List Nd => t ∈ z) (by simp [h]) h
theorem foldl_group (l : List Nd) : ∀ acc t, t ∈ l → t.plain = false → t ∈ l.foldl capStep acc := by
  induction l with
  | nil => intro acc t h; cases h
  | cons x l ih =>
    intro acc t h hp
    rcases List.mem_cons.1 h with rfl | h
    · refine foldl_keeps l _ t ?_
      unfold capStep
      rw [hp]; simp
    · exact ih _ t h hp
theorem Alts.cap {l : List Nd} (h : Alts l) : Alts (capL l) :=
  ⟨fun t ht => h.ok t (capL_mem ht), by have h1 := foldl_cap_sz l []; have h2 := h.sz; simp only [sizeL] at h1; unfold capL; omega, fun t ht => h.kd t (capL_mem ht)⟩
theorem mk4_HN {l : List Nd} (hn : ∀ t ∈ l, HN t) (ha : alt l = mk 4 zero 0 0 l) : HN (mk 4 zero 0 0 l) :=
  (HN_iff _).2 ⟨ha, hn⟩
theorem mkJ4_HN {l : List Nd} (hn : ∀ t ∈ l, HN t) (hne : l ≠ []) (ha : 1 < l.length → alt l = mk 4 zero 0 0 l) : HN (mkJ 4 l none) := by
  match l, hn, hne, ha with
  | [], _, hne, _ => exact absurd rfl hne
  | [x], hn, _, _ => exact hn x (by simp)
  | x :: y :: l, hn, _, ha => exact mk4_HN hn (ha (by simp))
theorem alt_eq {l : List Nd} (h : Alts l) (h2 : 1 < l.length) : alt l = bif !(mk 4 zero 0 0 l).plain then captured l else altR l := by
  have ho : Nd.or l = mk 4 zero 0 0 l := by rw [h.or, mkJ_two h2]
  unfold alt
  rw [ho]; rfl
theorem altM_HN {l : List Nd} (h : Alts l) (hp : ∀ t ∈ l, t.plain = true) (hn : ∀ t ∈ l, HN t) (hne : altL l ≠ []) : HN (altM l) := by
  rw [altM_eq h]
  refine mkJ4_HN (fun t ht => ?_) (fun h0 => hne ?_) (fun h2 => ?_)
  · have := (altM_list l t).1 ht
    rcases (altL_iff l t).1 this with ⟨h1, _⟩ | ⟨rfl, h1⟩
    · exact hn t h1
    · exact HN_leaf (ofS_nice (beq_iff_eq.2 h1)) (by omega)
  · refine List.eq_nil_iff_forall_not_mem.2 (fun t ht => ?_)
    have := (altM_list l t).2 ht
    rw [h0] at this; cases this
  · have hpl : ∀ t ∈ compactT (sortT (Nd.altL l)), t.plain = true := fun t ht => altL_plain hp t ((altM_list l t).1 ht)
    rw [alt_eq h.C h2, show (mk 4 zero 0 0 (compactT (sortT (Nd.altL l)))).plain = true from (plain_iff _).2 ⟨by show (4 : Int) ≠ 6; decide, hpl⟩]
    show altR _ = _
    rw [h.altR_C, altM_eq h, mkJ_two h2]
theorem Alts.nil_ne {l : List Nd} (h : Alts l) (hne : l ≠ []) (he : altE l = false) : Nd.altL l ≠ [] := Nd.altL_ne h.ok hne he
theorem altM_ok {l : List Nd} (h : Alts l) (hne : altL l ≠ []) : Ok3 (altM l) ∧ (altM l).size ≤ 1000 := by
  have hz := altM_sz l
  have h1 := altL_sz l
  have h2 := h.sz
  refine ⟨?_, by omega⟩
  have hC := h.C
  refine or_ok3 (fun t ht => ⟨hC.ok t ht, hC.small t ht⟩) (by have := hC.sz; omega) (fun h0 => hne ?_)
  refine List.eq_nil_iff_forall_not_mem.2 (fun t ht => ?_)
  have := (altM_list l t).2 ht
  rw [h0] at this; cases this
theorem altR_HN {l : List Nd} (h : Alts l) (hp : ∀ t ∈ l, t.plain = true) (hn : ∀ t ∈ l, HN t) (hne : l ≠ []) : HN (altR l) := by
  unfold altR
  cases he : altE l
  · simp only [Bool.false_and, cond_false]
    exact altM_HN h hp hn (h.nil_ne hne he)
  · simp only [Bool.true_and, cond_true]
    cases hk : ((altM l).kind == 0)
    · simp only [cond_false]
      have hl : altL l ≠ [] := fun hh => by
        have : altM l = none := by unfold altM; rw [hh]; rfl
        rw [this] at hk; exact absurd hk (by decide)
      have ho := altM_ok h hl
      exact timesN_HN (altM_HN h hp hn hl) ho.1 ho.2 (by decide)
    · exact HN_empty
theorem captured_HN {l : List Nd} (h : Alts l) (hp : (mk 4 zero 0 0 l).plain = false) (hn : ∀ t ∈ l, HN t) (hne : l ≠ []) : HN (captured l) := by
  have hc := h.cap
  unfold captured
  rw [hc.or]
  refine mkJ4_HN (fun t ht => hn t (capL_mem ht)) (capL_ne hne) (fun h2 => ?_)
  have hg : (mk 4 zero 0 0 (capL l)).plain = false := by
    cases hh : (mk 4 zero 0 0 (capL l)).plain
    · rfl
    · exfalso
      have h3 := ((plain_iff _).1 hh).2
      have : (mk 4 zero 0 0 l).plain = true := by
        refine (plain_iff _).2 ⟨by show (4 : Int) ≠ 6; decide, fun t ht => ?_⟩
        cases hq : t.plain
        · exact absurd (h3 t (foldl_group l [] t ht hq)) (by rw [hq]; decide)
        · rfl
      rw [hp] at this; cases this
  rw [alt_eq hc h2, hg]
  show captured _ = _
  unfold captured
  rw [capL_idem, hc.or, mkJ_two h2]
theorem four_form {n : Nd} (ok : Ok3 n) (hs : n.size ≤ 1000) (hk : n.kind = 4) : Alts n.subs ∧ 1 < n.subs.length ∧ n = mk 4 zero 0 0 n.subs := by
  have ha := right_alt (nice_right ok.1) hk
  have hz := size_subs n
  refine ⟨⟨fun t ht => ok.subs ht, by omega, fun t ht => ⟨has_false ha.2 t ht, ?_⟩⟩, ha.1, kd_form (nice_right ok.1) hk (by decide) (by decide)⟩
  have := nice_kind (ok.subs ht).1; omega
theorem alt_HN {ts : List Nd} (h : ∀ t ∈ ts, Ok3 t) (hs : sizeL ts ≤ 999) (hne : ts ≠ []) (hn : ∀ t ∈ ts, HN t) : HN (alt ts) := by
  have h5 : ∀ t ∈ ts, Ok3 t ∧ t.size ≤ 1000 := fun t ht => ⟨h t ht, by have := size_le_sizeL ht; omega⟩
  have ok := or_ok3 h5 (by omega) hne
  have hz := or_sz ts
  have hq := or_PN h5 (by omega) hne hn
  unfold alt
  cases hk : ((or ts).kind != 4)
  · simp only [cond_false]
    have h4 : (or ts).kind = 4 := by simpa using hk
    obtain ⟨ha, h2, hf⟩ := four_form ok (by omega) h4
    have hne2 : (or ts).subs ≠ [] := fun hh => by rw [hh] at h2; simp at h2
    cases hp : (or ts).plain
    · simp only [Bool.not_false, cond_true]
      rw [hf] at hp
      exact captured_HN ha hp (hq.1 h4) hne2
    · simp only [Bool.not_true, cond_false]
      exact altR_HN ha ((plain_iff _).1 hp).2 (hq.1 h4) hne2
  · simp only [cond_true]
    exact hq.2 (by simpa using hk)
theorem norm_HN (t : Nd) : Ok3 t → t.size ≤ 999 → HN (norm t) := by
  induction t using Nd.ind with
  | h kd st mn mx tsx ih =>
    intro h hs
    replace ih : ∀ t, t ∈ (Nd.mk kd st mn mx tsx).subs → _ := ih
    generalize Nd.mk kd st mn mx tsx = T at *
    clear kd st mn mx tsx
    have h3 := size_subs T
    have hsub : ∀ u ∈ T.subs, Ok3 (norm u) ∧ (norm u).size ≤ u.size := fun u hu => norm_main u (h.subs hu) (by have := size_le_sizeL hu; omega)
    have hl : ∀ t ∈ T.subs.map norm, Ok3 t := fun t ht => by obtain ⟨u, hu, rfl⟩ := List.mem_map.1 ht; exact (hsub u hu).1
    have hN : ∀ t ∈ T.subs.map norm, HN t := fun t ht => by obtain ⟨u, hu, rfl⟩ := List.mem_map.1 ht; exact ih u hu (h.subs hu) (by have := size_le_sizeL hu; omega)
    have hlz : ∀ l : List Nd, (∀ u ∈ l, (norm u).size ≤ u.size) → sizeL (l.map norm) ≤ sizeL l := by
      intro l
      induction l with
      | nil => intro _; exact Nat.le_refl _
      | cons x l ihl =>
        intro hx
        have h1 := hx x (by simp)
        have h2 := ihl (fun u hu => hx u (by simp [hu]))
        simp only [List.map_cons, sizeL]; omega
    have hz := hlz T.subs (fun u hu => (hsub u hu).2)
    have head : T.subs.length = 1 → ∃ u, T.subs[0]? = some u ∧ u ∈ T.subs ∧ (T.subs.map norm)[0]?.getD none = norm u := by
      intro h1
      obtain ⟨u, hu⟩ : ∃ u, T.subs[0]? = some u := ⟨_, List.getElem?_eq_getElem (by omega)⟩
      exact ⟨u, hu, List.mem_of_getElem? hu, by rw [List.getElem?_map, hu]; rfl⟩
    rw [norm_eq]
    unfold normK
    cases h6 : (T.kind == 6)
    · simp only [cond_false]
      cases h5 : (T.kind == 5)
      · simp only [cond_false]
        cases hk3 : (T.kind == 3)
        · simp only [cond_false]
          cases h4 : (T.kind == 4)
          · have hk := right_kind (nice_right h.1)
            simp only [beq_eq_false_iff_ne] at h6 h5 hk3 h4
            show HN T
            exact HN_leaf h.1 (by omega)
          · simp only [cond_true]
            have hne : T.subs.map norm ≠ [] := fun hh => by
              have := four_two (nice_right h.1) (beq_iff_eq.1 h4)
              have h0 : T.subs = [] := by simpa using hh
              rw [h0] at this; simp at this
            exact alt_HN hl (by omega) hne hN
        · simp only [cond_true]
          exact cat_HN hl (by omega) hN
      · simp only [cond_true]
        have hr := right_five (nice_right h.1) (beq_iff_eq.1 h5)
        obtain ⟨u, _, hu, hq⟩ := head hr.1
        rw [hq]
        have h7 := hsub u hu
        have h8 := size_le_sizeL hu
        exact timesN_HN (hN _ (List.mem_map.2 ⟨u, hu, rfl⟩)) h7.1 (by omega) hr.2.1
    · simp only [cond_true]
      obtain ⟨u, _, hu, hq⟩ := head (right_six (nice_right h.1) (beq_iff_eq.1 h6))
      rw [hq]
      have h7 := hsub u hu
      have h8 := size_le_sizeL hu
      exact capture_HN (hN _ (List.mem_map.2 ⟨u, hu, rfl⟩)) h7.1.1 (by omega)
end Nd
end Go.Proofs.Yteenegaadlhjdaa
namespace Go.Proofs.Yteenegaadlhjdaa
namespace Nd
variable {a b : Nd}
structure Sm (t : Nd) : Prop where
  ok : Ok3 t
  sz : t.size ≤ 50
theorem Sm.norm {t : Nd} (h : Sm t) : Sm (norm t) := by
  have h1 := norm_main t h.ok (by have := h.sz; omega)
  exact ⟨h1.1, by have := h.sz; omega⟩
theorem Sm.fine {t : Nd} (h : Sm t) : Fine t := ⟨h.ok.1, by have := h.sz; omega⟩
end Nd
end Go.Proofs.Yteenegaadlhjdaa
namespace Go.Proofs.Yteenegaadlhjdaa
namespace Nd
theorem sok_class (n : Int) : (classS (lettersS n)).sok = true := by
  have : ∀ l ∈ L12, SOk (setB l) := by decide
  exact sok_mk (this _ (lettersS_mem n)) (fun u hu => by cases hu)
theorem sok_empty : Nd.empty.sok = true := by decide
theorem sok_none : Nd.none.sok = true := by decide
theorem sok_flatJ1 {kd : Int} {t : Nd} (h : t.sok = true) : ∀ u ∈ flatJ1 kd t, u.sok = true := by
  intro u hu
  unfold flatJ1 at hu
  revert hu
  cases (t.kind == kd) <;> cases ((kd == 3) && (t.kind == 1)) <;> intro hu <;> simp at hu
  · subst hu; exact h
  · exact sok_subs h hu
  · exact sok_subs h hu
theorem sok_joins {kd : Int} {a b : Nd} (ha : a.sok = true) (hb : b.sok = true) : (joins kd a b).sok = true := by
  unfold joins flatJ
  simp only [List.flatMap_cons, List.flatMap_nil, List.append_nil]
  have hl : ∀ u ∈ flatJ1 kd a ++ flatJ1 kd b, u.sok = true := by
    intro u hu
    rcases List.mem_append.1 hu with hu | hu
    · exact sok_flatJ1 ha u hu
    · exact sok_flatJ1 hb u hu
  generalize flatJ1 kd a ++ flatJ1 kd b = l at hl
  rw [joinsL_eq]
  match l, hl with
  | [], _ => exact sok_empty
  | [x], hl => exact hl x (by simp)
  | x :: y :: l, hl => exact sok_mk sok_zero hl
theorem sok_one {k mn mx : Int} {t : Nd} (h : t.sok = true) : (mk k zero mn mx [t]).sok = true := sok_mk sok_zero (fun u hu => by simp [subs] at hu; subst hu; exact h)
theorem sok_step {s : M3} {x : Int × Int × Int} (h : ∀ t ∈ s.pile, t.sok = true) : ∀ t ∈ (stepM s x).pile, t.sok = true := by
  have htop : ∀ {l : List Nd}, (∀ t ∈ l, t.sok = true) → (top l).sok = true := by
    intro l hl
    unfold top
    cases hq : l[l.length - 1]? with
    | none => exact sok_none
    | some t => exact hl t (List.mem_of_getElem? hq)
  have htop2 : ∀ {l : List Nd}, (∀ t ∈ l, t.sok = true) → (top2 l).sok = true := by
    intro l hl
    unfold top2
    cases hq : l[l.length - 2]? with
    | none => exact sok_none
    | some t => exact hl t (List.mem_of_getElem? hq)
  have add : ∀ (n : Nat) (t : Nd), t.sok = true → ∀ u ∈ s.pile.take n ++ [t], u.sok = true := fun n t ht u hu => by
    rcases List.mem_append.1 hu with hu | hu
    · exact h u (List.mem_of_mem_take hu)
    · simp at hu; subst hu; exact ht
  have addA : ∀ (t : Nd), t.sok = true → ∀ u ∈ s.pile ++ [t], u.sok = true := fun t ht u hu => by
    rcases List.mem_append.1 hu with hu | hu
    · exact h u hu
    · simp at hu; subst hu; exact ht
  have setA : ∀ (n : Nat) (t : Nd), t.sok = true → ∀ u ∈ s.pile.set n t, u.sok = true := fun n t ht u hu => by
    rcases List.mem_or_eq_of_mem_set hu with hu | rfl
    · exact h u hu
    · exact ht
  unfold stepM
  dsimp only
  cases decide (x.1.tmod 12 < 4)
  · cases (x.1.tmod 12 == 4)
    · cases decide (x.1.tmod 12 < 7) && decide (1 < (s.pile.length : Int))
      · cases decide (x.1.tmod 12 < 9) && decide (1 < (s.pile.length : Int))
        · cases (x.1.tmod 12 == 9) && decide (0 < (s.pile.length : Int)) && decide (s.g < 9)
          · cases decide (9 < x.1.tmod 12) && decide (0 < (s.pile.length : Int)) && ((top s.pile).kind != 1)
            · exact h
            · simp only [cond_false, cond_true]
              cases decide (s.u * max3 (x.2.1.tmod 3) (mostM (x.2.1.tmod 3) (x.2.2.tmod 4)) 1 ≤ 16)
              · exact h
              · exact setA _ _ (sok_one (htop h))
          · exact setA _ _ (sok_one (htop h))
        · exact add _ _ (sok_joins (htop2 h) (htop h))
      · exact add _ _ (sok_joins (htop2 h) (htop h))
    · exact addA _ sok_empty
  · exact addA _ (sok_class _)
theorem made_sok (xs : List (Int × Int × Int)) : (made xs).sok = true := by
  have key : ∀ (l : List (Int × Int × Int)) (s : M3), (∀ t ∈ s.pile, t.sok = true) → ∀ t ∈ (l.foldl stepM s).pile, t.sok = true := by
    intro l
    induction l with
    | nil => intro s h; exact h
    | cons x l ih => intro s h; exact ih _ (sok_step h)
  have h := key (xs.take 25) ⟨[], 1, 0⟩ (by simp)
  unfold made madeSt
  generalize (List.foldl stepM ⟨[], 1, 0⟩ (xs.take 25)).pile = p at h
  cases p with
  | nil => exact (by decide : (classS [97]).sok = true)
  | cons t ts =>
    simp only [madeEnd]
    have fold : ∀ (l : List Nd) (t : Nd), t.sok = true → (∀ u ∈ l, u.sok = true) → (l.foldl (joins 4) t).sok = true := by
      intro l
      induction l with
      | nil => intro t h _; exact h
      | cons x l ih => intro t h hl; exact ih _ (sok_joins h (hl x (by simp))) (fun u hu => hl u (by simp [hu]))
    exact fold ts t (h t (by simp)) (fun u hu => h u (by simp [hu]))
section
variable {a b c : Nd}
theorem sok_flat1 {kd wo : Int} {t : Nd} (h : t.sok = true) : ∀ u ∈ flat1 kd wo t, u.sok = true := by
  intro u hu
  unfold flat1 at hu
  revert hu
  cases (t.kind == kd) <;> cases (t.kind == wo) <;> intro hu <;> simp at hu
  · subst hu; exact h
  · exact sok_subs h hu
  · exact sok_subs h hu
end
end Nd
end Go.Proofs.Yteenegaadlhjdaa
namespace Go.Proofs.Yteenegaadlhjdaa
namespace Nd
theorem mkJ_plain {kd : Int} {l : List Nd} {e : Nd} (hk : kd ≠ 6) (h : ∀ t ∈ l, t.plain = true) (he : e.plain = true) : (mkJ kd l e).plain = true := by
  match l, h with
  | [], _ => exact he
  | [x], h => exact h x (by simp)
  | x :: y :: l, h => exact (plain_iff _).2 ⟨hk, h⟩
theorem plain_sub {t u : Nd} (h : t.plain = true) (hu : u ∈ t.subs) : u.plain = true := ((plain_iff t).1 h).2 u hu
theorem flat_plain {kd wo : Int} {l : List Nd} (h : ∀ t ∈ l, t.plain = true) : ∀ u ∈ flat kd wo l, u.plain = true := by
  intro u hu
  obtain ⟨t, ht, hm⟩ := List.mem_flatMap.1 hu
  unfold flat1 at hm
  cases h1 : (t.kind == kd) <;> rw [h1] at hm
  · cases h2 : (t.kind == wo) <;> rw [h2] at hm
    · simp at hm; subst hm; exact h _ ht
    · cases hm
  · exact plain_sub (h t ht) hm
theorem timesN_plain {y : Nd} {b : Bd} (ok : Ok3 y) (hs : y.size ≤ 1000) (hb : bounds b.1 b.2 = true) (hp : y.plain = true) : (timesN y b).plain = true := by
  by_cases hk : y.kind = 1
  · rw [timesN_emp ok hk hb]; rfl
  rw [timesN_eq ok hs hk hb, hp]
  simp only [Bool.not_true, cond_false]
  refine cond_p (fun z : Nd => z.plain = true) hp ?_
  cases h2 : simple b && isS y
  · simp only [cond_false]
    exact cond_p (fun z : Nd => z.plain = true) (by rw [R_plain]; exact hp) (by rw [R_plain]; exact hp)
  · simp only [cond_true]
    simp only [Bool.and_eq_true] at h2
    obtain ⟨c, s, rfl, _⟩ := isS_form ok h2.2
    rw [R_plain] at hp
    rw [R_plain, sub0_R]; exact hp
theorem merged_plain {x y o : Nd} (hx : Ok3 x) (hy : Ok3 y) (sx : x.size ≤ 1000) (sy : y.size ≤ 1000) (h : merged x y = some o) : o.plain = true := by
  unfold merged at h
  cases h1 : (!x.plain || !y.plain) <;> rw [h1] at h <;> simp only [cond_true, cond_false] at h
  · simp only [Bool.or_eq_false_iff, Bool.not_eq_false'] at h1
    cases h2 : isStar y x <;> rw [h2] at h <;> simp only [cond_true, cond_false] at h
    · cases h3 : isStar x y <;> rw [h3] at h <;> simp only [cond_true, cond_false] at h
      · revert h
        generalize (Same2 x y && (x.kind == 5) && (bof x == star)) = b
        cases b <;> intro h
        · simp at h
        · simp at h; subst h; exact h1.1
      · cases h; exact timesN_plain hy sy (by decide) h1.2
    · cases h; exact timesN_plain hx sx (by decide) h1.1
  · simp at h
theorem mstep_plain {l l' : List Nd} (hl : ∀ t ∈ l, Ok3 t ∧ t.size ≤ 1000) (hn : ∀ t ∈ l, t.plain = true) (h : mstep l = some l') : ∀ t ∈ l', t.plain = true := by
  induction l generalizing l' with
  | nil => simp [mstep] at h
  | cons a l ih =>
    cases l with
    | nil => simp [mstep] at h
    | cons b r =>
      simp only [mstep] at h
      cases hm : merged a b with
      | some m =>
        rw [hm] at h; simp only [Option.some.injEq] at h; subst h
        intro t ht
        rcases List.mem_cons.1 ht with rfl | ht
        · exact merged_plain (hl a (by simp)).1 (hl b (by simp)).1 (hl a (by simp)).2 (hl b (by simp)).2 hm
        · exact hn t (by simp [ht])
      | none =>
        rw [hm] at h
        simp only [Option.map_eq_some_iff] at h
        obtain ⟨q, hq, rfl⟩ := h
        intro t ht
        rcases List.mem_cons.1 ht with rfl | ht
        · exact hn _ (by simp)
        · exact ih (fun t ht => hl t (by simp [ht])) (fun t ht => hn t (by simp [ht])) hq t ht
theorem seq_plain {l : List Nd} (h : ∀ t ∈ l, Ok3 t ∧ t.size ≤ 1000) (hs : sizeL l ≤ 9999) (hp : ∀ t ∈ l, t.plain = true) : (seq l).plain = true := by
  rw [seq_eq (fun t ht => ⟨(h t ht).1.1, (h t ht).2⟩) hs]
  exact mkJ_plain (by decide) (flat_plain hp) rfl
theorem catF_plain {n : Nd} (ok : Ok3 n) (hs : n.size ≤ 1000) (hp : n.plain = true) : (catF n).plain = true := by
  induction hz : n.size using Nat.strongRecOn generalizing n with
  | _ s ih =>
    by_cases hk : n.kind = 3
    · cases hm : mstep n.subs with
      | none => rw [catF_none hm]; exact hp
      | some l =>
        rw [catF_some hk ok.1 hm]
        have h1 := mstep_sz (fun t ht => nice_subs ok.1 ht) hm
        have h2 := seq_sz l
        have h3 := size_subs n
        have h4 := mstep_ok3 (fun t ht => ok.subs ht) (by omega) hm
        have h5 : ∀ t ∈ l, Ok3 t ∧ t.size ≤ 1000 := fun t ht => ⟨h4 t ht, by have := size_le_sizeL ht; omega⟩
        exact ih (seq l).size (by omega) (seq_ok3 h5 (by omega)) (by omega) (seq_plain h5 (by omega) (mstep_plain (fun t ht => ⟨ok.subs ht, by have := size_le_sizeL ht; omega⟩) (fun t ht => plain_sub hp ht) hm)) rfl
    · rw [catF_not hk]; exact hp
theorem altM_plain {l : List Nd} (h : Alts l) (hp : ∀ t ∈ l, t.plain = true) : (altM l).plain = true := by
  rw [altM_eq h]
  exact mkJ_plain (by decide) (fun t ht => altL_plain hp t ((altM_list l t).1 ht)) rfl
theorem altR_plain {l : List Nd} (h : Alts l) (hp : ∀ t ∈ l, t.plain = true) (hne : l ≠ []) : (altR l).plain = true := by
  unfold altR
  cases he : altE l
  · simp only [Bool.false_and, cond_false]
    exact altM_plain h hp
  · simp only [Bool.true_and, cond_true]
    cases hk : ((altM l).kind == 0)
    · simp only [cond_false]
      have hl : altL l ≠ [] := fun hh => by
        have : altM l = none := by unfold altM; rw [hh]; rfl
        rw [this] at hk; exact absurd hk (by decide)
      have ho := altM_ok h hl
      exact timesN_plain ho.1 ho.2 (by decide) (altM_plain h hp)
    · rfl
theorem alt_plain {ts : List Nd} (h : ∀ t ∈ ts, Ok3 t) (hs : sizeL ts ≤ 999) (hne : ts ≠ []) (hp : ∀ t ∈ ts, t.plain = true) : (alt ts).plain = true := by
  have h5 : ∀ t ∈ ts, Ok3 t ∧ t.size ≤ 1000 := fun t ht => ⟨h t ht, by have := size_le_sizeL ht; omega⟩
  have ok := or_ok3 h5 (by omega) hne
  have hz := or_sz ts
  have hq : (or ts).plain = true := by
    rw [or_eq (fun t ht => .inl ⟨(h t ht).1, (h5 t ht).2⟩) (by omega)]
    exact mkJ_plain (by decide) (flat_plain hp) rfl
  unfold alt
  cases hk : ((or ts).kind != 4)
  · have h4 : (or ts).kind = 4 := by simpa using hk
    obtain ⟨ha, h2, hf⟩ := four_form ok (by omega) h4
    have hne2 : (or ts).subs ≠ [] := fun hh => by rw [hh] at h2; simp at h2
    rw [hq]
    exact altR_plain ha ((plain_iff _).1 hq).2 hne2
  · exact hq
theorem norm_plain (t : Nd) : Ok3 t → t.size ≤ 999 → t.plain = true → (norm t).plain = true := by
  induction t using Nd.ind with
  | h kd st mn mx tsx ih =>
    intro h hs hp
    replace ih : ∀ t, t ∈ (Nd.mk kd st mn mx tsx).subs → _ := ih
    generalize Nd.mk kd st mn mx tsx = T at *
    clear kd st mn mx tsx
    have h3 := size_subs T
    have hsub : ∀ u ∈ T.subs, Ok3 (norm u) ∧ (norm u).size ≤ u.size := fun u hu => norm_main u (h.subs hu) (by have := size_le_sizeL hu; omega)
    have hl : ∀ t ∈ T.subs.map norm, Ok3 t := fun t ht => by obtain ⟨u, hu, rfl⟩ := List.mem_map.1 ht; exact (hsub u hu).1
    have hN : ∀ t ∈ T.subs.map norm, t.plain = true := fun t ht => by obtain ⟨u, hu, rfl⟩ := List.mem_map.1 ht; exact ih u hu (h.subs hu) (by have := size_le_sizeL hu; omega) (plain_sub hp hu)
    have hlz : ∀ l : List Nd, (∀ u ∈ l, (norm u).size ≤ u.size) → sizeL (l.map norm) ≤ sizeL l := by
      intro l
      induction l with
      | nil => intro _; exact Nat.le_refl _
      | cons x l ihl =>
        intro hx
        have h1 := hx x (by simp)
        have h2 := ihl (fun u hu => hx u (by simp [hu]))
        simp only [List.map_cons, sizeL]; omega
    have hz := hlz T.subs (fun u hu => (hsub u hu).2)
    have head : T.subs.length = 1 → ∃ u, T.subs[0]? = some u ∧ u ∈ T.subs ∧ (T.subs.map norm)[0]?.getD none = norm u := by
      intro h1
      obtain ⟨u, hu⟩ : ∃ u, T.subs[0]? = some u := ⟨_, List.getElem?_eq_getElem (by omega)⟩
      exact ⟨u, hu, List.mem_of_getElem? hu, by rw [List.getElem?_map, hu]; rfl⟩
    rw [norm_eq]
    unfold normK
    have h6 : (T.kind == 6) = false := by have := ((plain_iff T).1 hp).1; simpa using this
    rw [h6]
    simp only [cond_false]
    cases h5 : (T.kind == 5)
    · simp only [cond_false]
      cases hk3 : (T.kind == 3)
      · simp only [cond_false]
        cases h4 : (T.kind == 4)
        · exact hp
        · simp only [cond_true]
          have hne : T.subs.map norm ≠ [] := fun hh => by
            have := four_two (nice_right h.1) (beq_iff_eq.1 h4)
            have h0 : T.subs = [] := by simpa using hh
            rw [h0] at this; simp at this
          exact alt_plain hl (by omega) hne hN
      · simp only [cond_true]
        have h55 : ∀ t ∈ T.subs.map norm, Ok3 t ∧ t.size ≤ 1000 := fun t ht => ⟨hl t ht, by have := size_le_sizeL ht; omega⟩
        exact catF_plain (seq_ok3 h55 (by omega)) (by have := seq_sz (T.subs.map norm); omega) (seq_plain h55 (by omega) hN)
    · simp only [cond_true]
      have hr := right_five (nice_right h.1) (beq_iff_eq.1 h5)
      obtain ⟨u, _, hu, hq⟩ := head hr.1
      rw [hq]
      have h7 := hsub u hu
      have h8 := size_le_sizeL hu
      exact timesN_plain h7.1 (by omega) hr.2.1 (hN _ (List.mem_map.2 ⟨u, hu, rfl⟩))
theorem altR_one {y : Nd} (ok : Ok3 y) (hs : y.size ≤ 900) (h4 : y.kind ≠ 4) : altR [y] = y := by
  have h0 := nice_kind ok.1
  have ha : Alts [y] := ⟨fun t ht => by simp at ht; subst ht; exact ok, by simp [sizeL]; omega, fun t ht => by simp at ht; subst ht; exact ⟨h4, by omega⟩⟩
  by_cases h1 : y.kind = 1
  · rw [right_empty (nice_right ok.1) h1]; rfl
  have hE : altE [y] = false := by simp [altE, h1]
  have hL : altL [y] = [y] := by
    by_cases h2 : y.kind = 2
    · have hr := nice_right ok.1
      have hc := right_cases hr
      have e : altS [y] = y.set := s_ext (altS_ok _) (sok_set ok.2) (fun c _ => by rw [altS_bit]; simp [h2])
      have hz : (y.set == zero) = false := by
        obtain ⟨k, s, mn, mx, ts⟩ := y
        simp only [kind] at h2; subst h2
        simp [right, kind, set] at hr
        simpa [set] using hr.2
      have hy : ofS (altS [y]) = y := by
        rw [e]
        unfold ofS
        rw [hz]
        have e1 := hc.2.1 (by omega)
        have e2 := hc.2.2.1 (by omega)
        obtain ⟨k, s, mn, mx, ts⟩ := y
        simp only [kind, set, least, most, subs] at *
        rw [h2, e1.1, e1.2, e2]; rfl
      unfold altL
      rw [hy, show (y.kind == 2) = true from beq_iff_eq.2 h2]
      simp [altO, h2]
    · have e : altS [y] = zero := s_ext (altS_ok _) sok_zero (fun c _ => by rw [altS_bit, sbit_zero]; simp [h2])
      unfold altL
      rw [e, show ((ofS zero).kind == 2) = false from rfl]
      simp [altO, h2, h1]
  unfold altR
  rw [hE, altM_eq ha, hL]; rfl
def GG (l : List Nd) : List Nd := (flat 4 0 l).flatMap fun x => flat1 4 0 (norm x)
theorem flat_map_norm (F : List Nd) : flat 4 0 (F.map norm) = F.flatMap fun x => flat1 4 0 (norm x) := by
  unfold flat; rw [List.flatMap_map]
theorem sizeL_flatMap {f : Nd → List Nd} {F : List Nd} (h : ∀ x ∈ F, sizeL (f x) ≤ x.size) : sizeL (F.flatMap f) ≤ sizeL F := by
  induction F with
  | nil => exact Nat.le_refl _
  | cons x F ih =>
    have h1 := h x (by simp)
    have h2 := ih (fun t ht => h t (by simp [ht]))
    simp only [List.flatMap_cons, sizeL_append, sizeL]; omega
structure Pls (l : List Nd) : Prop where
  ok : ∀ t ∈ l, Ok3 t
  pl : ∀ t ∈ l, t.plain = true
  sz : sizeL l ≤ 800
  ne : l ≠ []
theorem Pls.small {l : List Nd} (h : Pls l) : ∀ t ∈ l, t.size ≤ 800 := fun t ht => by have := size_le_sizeL ht; have := h.sz; omega
theorem flat4_ok {l : List Nd} (h : Pls l) : Pls (flat 4 0 l) ∧ ∀ t ∈ flat 4 0 l, t.kind ≠ 4 := by
  have hz := flat_size 4 0 l
  have hn := flat_norm (l := l) two4 (fun t ht => .inl (h.ok t ht).1)
  refine ⟨⟨fun t ht => ⟨(hn t ht).1, flat_sok (fun t ht => (h.ok t ht).2) t ht⟩, flat_plain h.pl, by have := h.sz; omega, fun h0 => ?_⟩, fun t ht => (hn t ht).2.1⟩
  have hne := h.ne
  cases l with
  | nil => exact hne rfl
  | cons x l =>
    simp only [flat, List.flatMap_cons, List.append_eq_nil_iff] at h0
    exact flat1_alt_ne (h.ok x (by simp)).1 h0.1
theorem flat1_of {y : Nd} {kd wo : Int} (h1 : y.kind ≠ kd) (h2 : y.kind ≠ wo) : flat1 kd wo y = [y] := by
  unfold flat1; rw [beq_eq_false_iff_ne.2 h1, beq_eq_false_iff_ne.2 h2]; rfl
theorem norm_or {l : List Nd} (h : Pls l) : norm (or l) = altR (GG l) := by
  obtain ⟨hF, hF4⟩ := flat4_ok h
  have ho : or l = mkJ 4 (flat 4 0 l) none := or_eq (fun t ht => .inl ⟨(h.ok t ht).1, by have := h.small t ht; omega⟩) (by have := h.sz; omega)
  have hGG : GG l = (flat 4 0 l).flatMap fun x => flat1 4 0 (norm x) := rfl
  rw [ho, hGG]
  generalize flat 4 0 l = F at hF hF4
  have hN : ∀ x ∈ F, Ok3 (norm x) ∧ (norm x).size ≤ x.size := fun x hx => norm_main x (hF.ok x hx) (by have := hF.small x hx; omega)
  have hNp : ∀ x ∈ F, (norm x).plain = true := fun x hx => norm_plain x (hF.ok x hx) (by have := hF.small x hx; omega) (hF.pl x hx)
  match F, hF, hF4, hN, hNp with
  | [], hF, _, _, _ => exact absurd rfl hF.ne
  | [x], hF, _, hN, hNp =>
    have h1 := hN x (by simp)
    have hx := hF.small x (by simp)
    show norm x = altR ([x].flatMap fun x => flat1 4 0 (norm x))
    rw [List.flatMap_cons, List.flatMap_nil, List.append_nil]
    by_cases h4 : (norm x).kind = 4
    · obtain ⟨ha, h2, hf⟩ := four_form h1.1 (by omega) h4
      have hT := ((HN_iff _).1 (norm_HN x (hF.ok x (by simp)) (by omega))).1
      have e : flat1 4 0 (norm x) = (norm x).subs := by unfold flat1; rw [beq_iff_eq.2 h4]; rfl
      rw [e]
      have hp := hNp x (by simp)
      have hA : alt (norm x).subs = norm x := by
        have := hT
        unfold Top normK at this
        rw [h4] at this
        exact this
      rw [alt_eq ha h2, ← hf, hp] at hA
      exact hA.symm
    · have h0 := nice_kind h1.1.1
      rw [flat1_of h4 (by omega)]
      exact (altR_one h1.1 (by omega) h4).symm
  | x :: y :: F, hF, _, hN, hNp =>
    generalize hL : x :: y :: F = L at *
    have h2 : 1 < L.length := by rw [← hL]; simp
    rw [mkJ_two h2]
    have hm : norm (mk 4 zero 0 0 L) = alt (L.map norm) := by rw [norm_eq]; rfl
    rw [hm]
    have hz1 : sizeL (L.map norm) ≤ sizeL L := by
      have : ∀ l : List Nd, (∀ u ∈ l, (norm u).size ≤ u.size) → sizeL (l.map norm) ≤ sizeL l := by
        intro l
        induction l with
        | nil => intro _; exact Nat.le_refl _
        | cons x l ihl =>
          intro hx
          have h1 := hx x (by simp)
          have h2 := ihl (fun u hu => hx u (by simp [hu]))
          simp only [List.map_cons, sizeL]; omega
      exact this L (fun u hu => (hN u hu).2)
    have hsz := hF.sz
    have hM : Pls (L.map norm) := ⟨fun t ht => by obtain ⟨u, hu, rfl⟩ := List.mem_map.1 ht; exact (hN u hu).1, fun t ht => by obtain ⟨u, hu, rfl⟩ := List.mem_map.1 ht; exact hNp u hu, by omega, fun h0 => hF.ne (by simpa using h0)⟩
    obtain ⟨hG, hG4⟩ := flat4_ok hM
    have hor : or (L.map norm) = mkJ 4 (flat 4 0 (L.map norm)) none := or_eq (fun t ht => .inl ⟨(hM.ok t ht).1, by have := hM.small t ht; omega⟩) (by omega)
    rw [← flat_map_norm]
    generalize flat 4 0 (L.map norm) = G at hG hG4 hor
    have hA : Alts G := ⟨hG.ok, by have := hG.sz; omega, fun t ht => ⟨hG4 t ht, by have := nice_kind (hG.ok t ht).1; omega⟩⟩
    match G, hG, hG4, hor, hA with
    | [], hG, _, _, _ => exact absurd rfl hG.ne
    | [g], hG, hG4, hor, _ =>
      unfold alt
      rw [hor]
      show (bif g.kind != 4 then g else _) = _
      have hg := hG4 g (by simp)
      rw [show (g.kind != 4) = true by simpa using hg]
      exact (altR_one (hG.ok g (by simp)) (by have := hG.small g (by simp); omega) hg).symm
    | g :: g' :: G, hG, _, hor, hA =>
      unfold alt
      rw [hor]
      show (bif !(mk 4 zero 0 0 (g :: g' :: G)).plain then _ else altR (g :: g' :: G)) = _
      rw [show (mk 4 zero 0 0 (g :: g' :: G)).plain = true from (plain_iff _).2 ⟨by show (4 : Int) ≠ 6; decide, hG.pl⟩]
      rfl
theorem GG_alts {l : List Nd} (h : Pls l) : Alts (GG l) := by
  obtain ⟨hF, _⟩ := flat4_ok h
  have hN : ∀ x ∈ flat 4 0 l, Ok3 (norm x) ∧ (norm x).size ≤ x.size := fun x hx => norm_main x (hF.ok x hx) (by have := hF.small x hx; omega)
  have hz := sizeL_flatMap (f := fun x => flat1 4 0 (norm x)) (F := flat 4 0 l) (fun x hx => Nat.le_trans (flat1_size _ _ _) (hN x hx).2)
  refine ⟨fun t ht => ?_, by have := hF.sz; unfold GG; omega, fun t ht => ?_⟩
  · obtain ⟨x, hx, hm⟩ := List.mem_flatMap.1 ht
    have h1 := (hN x hx).1
    exact ⟨(two4.norm h1.1 t hm).1, sok_flat1 h1.2 t hm⟩
  · obtain ⟨x, hx, hm⟩ := List.mem_flatMap.1 ht
    have h1 := two4.norm (hN x hx).1.1 t hm
    exact ⟨h1.2.1, h1.2.2⟩
theorem flatMap_iff {f : Nd → List Nd} {l l' : List Nd} (h : ∀ t, t ∈ l ↔ t ∈ l') (t : Nd) : t ∈ l.flatMap f ↔ t ∈ l'.flatMap f := by
  simp only [List.mem_flatMap]
  exact ⟨fun ⟨x, hx, hm⟩ => ⟨x, (h x).1 hx, hm⟩, fun ⟨x, hx, hm⟩ => ⟨x, (h x).2 hx, hm⟩⟩
theorem norm_or_ext {l l' : List Nd} (h : Pls l) (h' : Pls l') (hm : ∀ t, t ∈ l ↔ t ∈ l') : norm (or l) = norm (or l') := by
  rw [norm_or h, norm_or h']
  exact altR_ext (GG_alts h).altL (flatMap_iff (flatMap_iff hm))
abbrev Steps := List (Int × Int × Int)
def plains (l : List Steps) : List Nd := (l.map made).filter plain
theorem plains_succ {l : List Steps} {k : Nat} {x : Steps} (h : l[k]? = some x) (hc : (made x).clean = true) : plains (l.take (k + 1)) = plains (l.take k) ++ (bif (made x).clean && (made x).plain then [made x] else []) := by
  unfold plains
  rw [List.take_add_one, h, Option.toList_some, List.map_append, List.filter_append, hc, Bool.true_and]
  cases hp : (made x).plain <;> simp [hp]
theorem plains_len (l : List Steps) : (plains l).length ≤ l.length := by
  unfold plains
  refine Nat.le_trans (List.length_filter_le _ _) (by simp)
structure Trees (l : List Nd) : Prop where
  ok : ∀ t ∈ l, Sm t ∧ t.plain = true
  len : l.length ≤ 3
theorem plains_trees {l : List Steps} (hb : ∀ x ∈ l, Sm (made x)) (hl : l.length ≤ 3) : Trees (plains l) := by
  refine ⟨fun t ht => ?_, Nat.le_trans (plains_len l) hl⟩
  obtain ⟨h1, h2⟩ := List.mem_filter.1 ht
  obtain ⟨x, hx, rfl⟩ := List.mem_map.1 h1
  exact ⟨hb x hx, h2⟩
theorem sizeL_50 {l : List Nd} (h : ∀ t ∈ l, t.size ≤ 50) : sizeL l ≤ 50 * l.length := by
  induction l with
  | nil => exact Nat.le_refl _
  | cons x l ih => have := h x (by simp); have := ih (fun t ht => h t (by simp [ht])); simp only [sizeL, List.length_cons]; omega
theorem Trees.pls {l l' : List Nd} (h : Trees l) (hm : ∀ t ∈ l', t ∈ l) (hl : l'.length ≤ 6) (hne : 0 < l'.length) : Pls l' := by
  refine ⟨fun t ht => (h.ok t (hm t ht)).1.ok, fun t ht => (h.ok t (hm t ht)).2, ?_, fun h0 => by rw [h0] at hne; simp at hne⟩
  have := sizeL_50 (fun t ht => (h.ok t (hm t ht)).1.sz); omega
def turned (l : List Nd) : List Nd := l.drop 1 ++ l.take 1
def twice (l : List Nd) : List Nd := turned l ++ l
theorem turned_mem (l : List Nd) (t : Nd) : t ∈ turned l ↔ t ∈ l := by
  unfold turned
  cases l with
  | nil => simp
  | cons x l => simp [or_comm]
theorem twice_mem (l : List Nd) (t : Nd) : t ∈ twice l ↔ t ∈ l := by
  unfold twice; rw [List.mem_append, turned_mem]; exact or_self_iff
theorem turned_len (l : List Nd) : (turned l).length = l.length := by unfold turned; simp; omega
theorem twice_len (l : List Nd) : (twice l).length = l.length + l.length := by unfold twice; simp [turned_len]
theorem or_fine {l : List Nd} (h : Pls l) : Fine (or l) ∧ (or l).sok = true := by
  have h5 : ∀ t ∈ l, Ok3 t ∧ t.size ≤ 1000 := fun t ht => ⟨h.ok t ht, by have := h.small t ht; omega⟩
  have := or_ok3 h5 (by have := h.sz; omega) h.ne
  exact ⟨⟨this.1, by have := or_sz l; have := h.sz; omega⟩, this.2⟩
theorem Trees.self {l : List Nd} (h : Trees l) (hne : 0 < l.length) : Pls l := h.pls (fun _ h => h) (by have := h.len; omega) hne
def pl3 (xs ys zs : Steps) (k : Nat) : List Nd := plains ([xs, ys, zs].take k)
theorem pl3_succ {xs ys zs x : Steps} {k : Nat} (h : [xs, ys, zs][k]? = some x) (hs : Sm (made x)) : pl3 xs ys zs (k + 1) = pl3 xs ys zs k ++ (bif (made x).clean && (made x).plain then [made x] else []) := plains_succ h hs.fine.clean
theorem pl3_len (xs ys zs : Steps) (k : Nat) : (pl3 xs ys zs k).length ≤ 3 := Nat.le_trans (plains_len _) (Nat.le_trans (List.length_take_le' _ _) (by simp))
theorem pl3_trees {xs ys zs : Steps} (k : Nat) (h : ∀ x ∈ [xs, ys, zs], Sm (made x)) : Trees (pl3 xs ys zs k) := plains_trees (fun x hx => h x (List.mem_of_mem_take hx)) (Nat.le_trans (List.length_take_le' _ _) (by simp))
theorem or_empty {l : List Nd} (h : l.length = 0) : or l = none := by rw [List.length_eq_zero_iff.1 h]; rfl
theorem turned_at {l : List Nd} {t : Nd} (h : l[0]? = some t) : l.drop 1 ++ [t] = turned l := by
  cases l with
  | nil => simp at h
  | cons x l => simp at h; subst h; rfl
theorem Trees.at {l x : List Nd} {k : Nat} (h : Trees l) (hne : 0 < l.length) (hx : [turned l, twice l][k]? = some x) : Pls x ∧ norm (or x) = norm (or l) := by
  have hx2 : x = turned l ∨ x = twice l := by
    match k, hx with
    | 0, hx => exact .inl (Option.some.inj hx).symm
    | 1, hx => exact .inr (Option.some.inj hx).symm
    | k + 2, hx => simp at hx
  have := h.len
  have hp : Pls x := by
    rcases hx2 with rfl | rfl
    · exact h.pls (fun t ht => (turned_mem l t).1 ht) (by rw [turned_len]; omega) (by rw [turned_len]; omega)
    · exact h.pls (fun t ht => (twice_mem l t).1 ht) (by rw [twice_len]; omega) (by rw [twice_len]; omega)
  refine ⟨hp, norm_or_ext hp (h.self hne) (fun t => ?_)⟩
  rcases hx2 with rfl | rfl
  · exact turned_mem l t
  · exact twice_mem l t
end Nd
end Go.Proofs.Yteenegaadlhjdaa
namespace Go.Proofs.Yteenegaadlhjdaa
open Go.Proofs Go.RowKit
set_option maxRecDepth 20000 in
set_option maxHeartbeats 4000000 in
theorem joins_ok (D D2 : Nat → Prop) (w : World) (kind : Int) (l l2 : List Value) (T U : Nd) (hT : NodeL D w l T) (hU : NodeL D2 w l2 U) (hs1 : T.size ≤ 100000) (hs2 : U.size ≤ 100000) :
  Calls Try.prog 22 #[.int .u8 kind, .agg l.toArray, .agg l2.toArray] w fun e w' => ∃ l', e = .returned (.agg l'.toArray) ∧ NodeL (fun k => (D k ∨ D2 k) ∨ w.heap.size ≤ k) w' l' (Nd.joins kind T U) ∧ Ext w w' := by
 have hT := hT.lt
 obtain ⟨a, cap, rfl, hts, hlen⟩ := hT.op2
 have hU := hU.lt
 obtain ⟨a2, cap2, rfl, hts2, hlen2⟩ := hU.op2
 refine Calls.enter (args := [.int .u8 kind, .agg (tcells T (.slice a T.subs.length cap)).toArray, .agg (tcells U (.slice a2 U.subs.length cap2)).toArray]) Try.func22 rfl rfl rfl rfl ?_
 refine sq ?_
 refine WL.box_agg rfl rfl rfl (fun b1 w6 hb2 hE5 hs3 hR4 => ?_)
 refine WL.box_agg rfl rfl rfl (fun b7 w12 hb8 hE11 hs9 hR10 => ?_)
 refine WL.alloc rfl rfl Ty.zero30 rfl (fun b13 w18 hb14 hE17 hs15 hR16 => ?_)
 refine WL.dn ?_
 refine sq ?_
 refine asg ?_
 refine WL.dn ?_
 refine WC.seqk ?_
 refine sq ?_
 have h19 := ((hR4.ext hE11).ext hE17)
 refine WL.load_box rfl rfl rfl h19 Ty.agg30 ?_
 refine WL.load_box rfl rfl rfl (hR10.ext hE17) Ty.agg30 ?_
 have h20 := (((hT.ext hE5).ext hE11).ext hE17)
 have h21 := (((hU.ext hE5).ext hE11).ext hE17)
 refine WL.buildSlice (vs := [.agg (tcells T (.slice a T.subs.length cap)).toArray, .agg (tcells U (.slice a2 U.subs.length cap2)).toArray]) (cells := (tcells T (.slice a T.subs.length cap) ++ tcells U (.slice a2 U.subs.length cap2))) rfl rfl Ty.slice24 Ty.zero30 rfl rfl rfl rfl rfl rfl (fun b22 w27 hb23 hE26 hs24 hR25 => ?_)
 have hts22 := (NodesV.lit (n := 2) (ts := [T, U]) hR25 (RowsL.cons (h20.ext hE26) (RowsL.cons (h21.ext hE26) (RowsL.nil' _))) rfl rfl (by decide)).lt
 refine WL.len rfl rfl Try.underlying24 rfl ?_
 refine mv ?_
 refine WL.dn ?_
 refine WC.block ?_
 refine WC.weaken (r' := [(0, .int .u8 kind), (6, pt b13 0), (12, .slice (some ⟨b22, 0, none⟩) 2 2), (13, .int .i64 2), (14, .int .i64 0), (7, .slice none 0 0)]) (s4 (sr rfl (sr rfl (subReg_nil _)))) ?_
 refine WC.loop (σ := Nat × Value) (fun s r_ w_ => r_ = [(0, .int .u8 kind), (6, pt b13 0), (12, .slice (some ⟨b22, 0, none⟩) 2 2), (13, .int .i64 2), (14, .int .i64 (s.1 : Int)), (7, s.2)] ∧ Ext w w_ ∧ (s.1 ≤ 2 ∧ w27.heap.size ≤ w_.heap.size ∧ Row w_ b13 (zc 0 0 0 (.slice none 0 0)) 30 ∧ NodesV (fun k => (((D k ∧ k < w.heap.size) ∨ (D2 k ∧ k < w.heap.size)) ∨ k = b22) ∧ k < w27.heap.size) w_ (.slice (some ⟨b22, 0, none⟩) 2 2) [T, U] ∧ OwnV 30 w27.heap.size (fun k => (((D k ∧ k < w.heap.size) ∨ (D2 k ∧ k < w.heap.size)) ∨ k = b22) ∧ k < w27.heap.size) w_ s.2 (Nd.flatJ kind ([T, U].take s.1)))) (fun s => 2 - s.1) (0, .slice none 0 0) ⟨rfl, (((hE5.trans hE11).trans hE17).trans hE26), ⟨Nat.zero_le _, Nat.le_refl _, (hR16.ext hE26), (hts22.dom (by intro k h1; have h2 := h1.2; refine ⟨?_, by omega⟩; replace h1 := h1.1; (repeat' first | (guard_hyp h1 : _ ∨ _; refine Or.elim h1 (fun h1 => ?_) (fun h1 => ?_)) | (guard_hyp h1 : _ ∧ _; have hx := h1.2; replace h1 := h1.1)) <;> first | exact h1.elim | exact .inr h1 | exact .inl (.inl ⟨h1, hx⟩) | exact .inl (.inr ⟨h1, hx⟩))), OwnV.nil _ _ _ _⟩⟩ ?_
 rintro ⟨k, v⟩ r_ w30 ⟨rfl, hE28, hI29⟩
 have hzhE28 := hE28.size
 dsimp only at hI29
 obtain ⟨hk, hWw, hR6, hts, hO⟩ := hI29
 have hD : ∀ k, ((((D k ∧ k < w.heap.size) ∨ (D2 k ∧ k < w.heap.size)) ∨ k = b22) ∧ k < w27.heap.size) → k < w27.heap.size := fun k h => h.2
 have hol := hO.own
 refine WC.weaken (r' := [(0, .int .u8 kind), (6, pt b13 0), (12, .slice (some ⟨b22, 0, none⟩) 2 2), (13, .int .i64 2), (14, .int .i64 (k : Int)), (7, v)]) (s4 (sr rfl (sr rfl (subReg_nil _)))) ?_
 refine sq ?_
 cases hc31 : decide (((k : Int) : Int) < 2) with
 | false =>
  refine WL.lss rfl rfl rfl rfl hc31 ?_
  have hp31 := of_decide_eq_false hc31
  refine WL.dn ?_
  refine WC.seqk ?_
  refine cF ?_
  refine WC.exit (fun a_ ha => ?_)
  refine exit_then ?_
  refine exit_then ?_
  refine exit_here ?_
  refine WC.at ?_ ha
  refine WC.seqk ?_
  refine sq ?_
  refine mv ?_
  have hkk : k = 2 := by omega
  subst hkk
  have hOO : OwnV _ _ _ _ _ (Nd.flatJ kind [T, U]) := hO
  have hle32 := hOO.le
  obtain ⟨a32, cap32, rfl, hnn32, hx32⟩ := hOO.cases
  have hts32 := hOO.nodes.lt
  refine WL.len rfl rfl Try.underlying24 rfl ?_
  refine WL.dn ?_
  refine WC.block ?_
  refine sq ?_
  cases hc33 : (((Nd.flatJ kind [T, U]).length : Int) == 0) with
  | false =>
   refine WL.eql rfl rfl rfl rfl hc33 ?_
   have hp33 := beq_eq_false_iff_ne.1 hc33
   refine asg ?_
   refine WL.dn ?_
   refine cF ?_
   refine sq ?_
   cases hc34 : (((Nd.flatJ kind [T, U]).length : Int) == 1) with
   | false =>
    refine WL.eql rfl rfl rfl rfl hc34 ?_
    have hp34 := beq_eq_false_iff_ne.1 hc34
    refine asg ?_
    refine WL.dn ?_
    refine cF ?_
    refine WC.sk ?_
    refine sq ?_
    refine mv ?_
    refine mv ?_
    refine WL.build (l := (zc kind 0 0 (.slice a32 ((Nd.flatJ kind [T, U]).length) cap32))) rfl rfl Ty.zero30 Ty.st30 ⟨⟨rfl, rfl⟩, (by kernel_rfl)⟩ ?_
    have hn35 : NodeL _ w30 (zc kind 0 0 (.slice a32 ((Nd.flatJ kind [T, U]).length) cap32)) (Nd.mk kind Nd.zero 0 0 (Nd.flatJ kind [T, U])) := NodeL.shut (k := kind) (s := Nd.zero) (mn := 0) (mx := 0) (sl := .slice a32 ((Nd.flatJ kind [T, U]).length) cap32) (ts := (Nd.flatJ kind [T, U])) hts32
    have hn35 := hn35.lt
    refine WL.store_box rfl rfl rfl hR6 Ty.agg30 rfl rfl (fun w38 hB37 hR36 => ?_)
    have hzhB37 := hB37.size
    refine WL.dn ?_
    refine WC.ret (fun a_ ha => ?_)
    exact bodyPost_cell (l := (zc kind 0 0 (.slice a32 ((Nd.flatJ kind [T, U]).length) cap32))) rfl ha rfl Ty.agg30 hR36 ⟨_, rfl, (by simp only [Nd.joins, Nd.joinsL, hc33, hc34, cond_true, cond_false]; exact (hn35.bu hB37).dom (by intro k h1; (try dsimp only at h1); (repeat' first | (guard_hyp h1 : _ ∨ _; refine Or.elim h1 (fun h1 => ?_) (fun h1 => ?_)) | (guard_hyp h1 : _ ∧ _; have hx := h1.2; replace h1 := h1.1)) <;> first | exact h1.elim | exact .inl (.inl h1) | exact .inl (.inr h1) | exact .inr (by omega))), (hB37.onto hE28 (by omega))⟩
   | true =>
    refine WL.eql rfl rfl rfl rfl hc34 ?_
    have hp34 := beq_iff_eq.1 hc34
    refine asg ?_
    refine WL.dn ?_
    refine cT ?_
    refine sq ?_
    refine mv ?_
    obtain ⟨t35, ht35⟩ : ∃ t, (Nd.flatJ kind [T, U])[0]? = some t := ⟨_, List.getElem?_eq_getElem (by omega)⟩
    obtain ⟨eb35, eo35, el35, hea35, hD35, her35, hn35⟩ := hts32.at ht35
    obtain ⟨a35, cap35, rfl, hts35, hlen35⟩ := hn35.op2
    subst hea35
    refine WL.indexAddr (i := 0) rfl rfl Ty.slice24 rfl rfl rfl (by omega) ?_
    refine WL.load_agg (l := tcells t35 (.slice a35 t35.subs.length cap35)) rfl rfl Ty.agg30 rfl her35 ?_
    refine WL.store_box rfl rfl rfl hR6 Ty.agg30 rfl rfl (fun w38 hB37 hR36 => ?_)
    have hzhB37 := hB37.size
    refine WL.dn ?_
    refine WC.ret (fun a_ ha => ?_)
    refine ret_block ?_
    refine ret_then ?_
    exact bodyPost_cell (l := (tcells t35 (.slice a35 t35.subs.length cap35))) rfl ha rfl Ty.agg30 hR36 ⟨_, rfl, (by simp only [Nd.joins, Nd.joinsL, hc33, hc34, ht35, Option.getD_some, cond_true, cond_false]; exact (hn35.bu hB37).dom (by intro k h1; (try dsimp only at h1); (repeat' first | (guard_hyp h1 : _ ∨ _; refine Or.elim h1 (fun h1 => ?_) (fun h1 => ?_)) | (guard_hyp h1 : _ ∧ _; have hx := h1.2; replace h1 := h1.1)) <;> first | exact h1.elim | exact .inl (.inl h1) | exact .inl (.inr h1) | exact .inr (by omega))), (hB37.onto hE28 (by omega))⟩
  | true =>
   refine WL.eql rfl rfl rfl rfl hc33 ?_
   have hp33 := beq_iff_eq.1 hc33
   refine asg ?_
   refine WL.dn ?_
   refine cT ?_
   refine sq ?_
   refine WL.build (l := (zc 1 0 0 (.slice none 0 0))) rfl rfl Ty.zero30 Ty.st30 ⟨⟨rfl, rfl⟩, (by kernel_rfl)⟩ ?_
   have hn34 : NodeL _ w30 (zc 1 0 0 (.slice none 0 0)) (Nd.mk 1 Nd.zero 0 0 ([])) := NodeL.shut (k := 1) (s := Nd.zero) (mn := 0) (mx := 0) (sl := .slice none 0 0) (ts := []) (NodesV.nil (fun _ => False) _ none 0)
   have hn34 := hn34.lt
   refine WL.store_box rfl rfl rfl hR6 Ty.agg30 rfl rfl (fun w37 hB36 hR35 => ?_)
   have hzhB36 := hB36.size
   refine WL.dn ?_
   refine WC.ret (fun a_ ha => ?_)
   refine ret_block ?_
   refine ret_then ?_
   exact bodyPost_cell (l := (zc 1 0 0 (.slice none 0 0))) rfl ha rfl Ty.agg30 hR35 ⟨_, rfl, (by simp only [Nd.joins, Nd.joinsL, hc33, cond_true, cond_false]; exact (hn34.bu hB36).dom (by intro k h1; (try dsimp only at h1); (repeat' first | (guard_hyp h1 : _ ∨ _; refine Or.elim h1 (fun h1 => ?_) (fun h1 => ?_)) | (guard_hyp h1 : _ ∧ _; have hx := h1.2; replace h1 := h1.1)) <;> first | exact h1.elim | exact .inl (.inl h1) | exact .inl (.inr h1) | exact .inr (by omega))), (hB36.onto hE28 (by omega))⟩
 | true =>
  refine WL.lss rfl rfl rfl rfl hc31 ?_
  have hp31 := of_decide_eq_true hc31
  refine WL.dn ?_
  refine WC.seqk ?_
  refine cT ?_
  refine WC.sk ?_
  refine WC.seqk ?_
  refine WC.block ?_
  refine sq ?_
  obtain ⟨t32, ht32⟩ : ∃ t, [T, U][k]? = some t := ⟨_, List.getElem?_eq_getElem (by show k < 2; omega)⟩
  obtain ⟨eb32, eo32, el32, hea32, hD32, her32, hn32⟩ := hts.at ht32
  obtain ⟨a32, cap32, rfl, hts32, hlen32⟩ := hn32.op2
  cases hea32
  refine WL.indexAddr (i := k) rfl rfl Ty.slice24 rfl rfl rfl (by show k < 2; omega) ?_
  refine WL.load_agg (l := tcells t32 (.slice a32 t32.subs.length cap32)) rfl rfl Ty.agg30 rfl her32 ?_
  refine WL.alloc rfl rfl Ty.zero30 rfl (fun b33 w38 hb34 hE37 hs35 hR36 => ?_)
  refine WL.store_box rfl rfl rfl hR36 Ty.agg30 rfl rfl (fun w41 hB40 hR39 => ?_)
  have hzhB40 := hB40.size
  refine WL.dn ?_
  refine WC.block ?_
  refine sq ?_
  refine WL.fieldAddr rfl rfl Ty.fld30_0 rfl ?_
  refine WL.load_fld rfl rfl Ty.flat5 rfl hR39 rfl ?_
  refine mv ?_
  cases hc42 : ((t32.kind : Int) == kind) with
  | false =>
   refine WL.eql rfl rfl rfl rfl hc42 ?_
   have hp42 := beq_eq_false_iff_ne.1 hc42
   refine asg ?_
   refine WL.dn ?_
   refine cF ?_
   refine sq ?_
   refine mv ?_
   cases hc43 : ((kind : Int) == 3) with
   | false =>
    refine WL.eql rfl rfl rfl rfl hc43 ?_
    have hp43 := beq_eq_false_iff_ne.1 hc43
    refine mv ?_
    refine ps ?_
    refine ps ?_
    refine ps ?_
    refine pF ?_
    refine asg ?_
    refine WL.dn ?_
    refine cF ?_
    refine WC.region ?_
    refine mv ?_
    refine WL.load_box rfl rfl rfl hR39 Ty.agg30 ?_
    have h44 := ((hn32.ext hE37).bu hB40)
    refine WL.buildSlice (vs := [.agg (tcells t32 (.slice a32 t32.subs.length cap32)).toArray]) (cells := (tcells t32 (.slice a32 t32.subs.length cap32))) rfl rfl Ty.slice24 Ty.zero30 rfl rfl rfl rfl rfl rfl (fun b45 w50 hb46 hE49 hs47 hR48 => ?_)
    have hts45 := (NodesV.lit (n := 1) (ts := [t32]) hR48 (RowsL.cons (h44.ext hE49) (RowsL.nil' _)) rfl rfl (by decide)).lt
    have h51 := (((hO.ext hE37).but hB40 (fun h1 => by have := hD _ h1; first | omega | (dsimp only at h1; omega)) (fun hk => by have := (hO.ext hE37).own _ hk; have := hol _ hk; omega)).ext hE49)
    have hol52 := h51.own
    refine WL.append1 rfl rfl Ty.slice24 Ty.zero30 rfl small_node rfl rfl h51 hR48 (h44.ext hE49) (by intro k h1 hh; have := hol52 _ hh; have := hol _ hh; first | omega | ((try dsimp only at h1); (repeat' first | (guard_hyp h1 : _ ∨ _; refine Or.elim h1 (fun h1 => ?_) (fun h1 => ?_)) | (guard_hyp h1 : _ ∧ _; have hx := h1.2; replace h1 := h1.1)) <;> first | contradiction | omega)) (by have h1 := Nd.sizeL_take ht32; have h2 := Nd.flatJ_len kind ([T, U].take k); have h3 := Nd.size_subs t32; have h4 := Nd.length_le_sizeL t32.subs; have h5 : Nd.sizeL [T, U] = T.size + U.size := (by simp [Nd.sizeL]); omega) (by omega) ?_
    intro v52 w52 hG52 hO52 hv52
    have hE52 := grown_below hG52 ((hB40.onto (hE28.trans hE37) (by omega)).trans hE49) (by intro k hk; have := hol52 _ hk; omega)
    have hz52 := hE52.size
    have hzz52 := hG52.size
    refine asg ?_
    refine WL.dn ?_
    refine WC.region ?_
    refine WL.add (v := (k : Int) + 1) rfl rfl rfl rfl (IntWalk.i64_in _ (by omega)) ?_
    refine mv ?_
    refine WL.nil (fun a_ ha => ?_)
    have h53 := (grown_row hG52 ((hB40.row (hR6.ext hE37) (by omega)).ext hE49) (fun hh => by have := hol52 _ hh; have := hol _ hh; omega))
    have h54 := ((((hts.ext hE37).bu hB40).ext hE49).grown hG52 (by intro k h1 hlt hh; have := hol52 _ hh; have := hol _ hh; first | omega | ((try dsimp only at h1); (repeat' first | (guard_hyp h1 : _ ∨ _; refine Or.elim h1 (fun h1 => ?_) (fun h1 => ?_)) | (guard_hyp h1 : _ ∧ _; have hx := h1.2; replace h1 := h1.1)) <;> first | contradiction | omega)))
    exact ⟨(k + 1, v52), _, ha.weaken (s4 (sr rfl (sr rfl (subReg_nil _)))), ⟨rfl, hE52, ⟨by first | omega | (dsimp only; omega), by omega, h53, h54, (by dsimp only; simp only [Nd.flatJ_succ _ ht32, Nd.flatJ1, hc42, hc43, cond_true, cond_false, List.append_nil, Bool.true_and, Bool.false_and]; exact hO52.dom (by first | exact fun _ h _ _ => h | (rintro k h _ _; rcases h with h | h; exact h; first | exact h | exact h.1)))⟩⟩, by first | omega | (dsimp only; omega)⟩
   | true =>
    refine WL.eql rfl rfl rfl rfl hc43 ?_
    have hp43 := beq_iff_eq.1 hc43
    refine mv ?_
    refine WL.fieldAddr rfl rfl Ty.fld30_0 rfl ?_
    refine WL.load_fld rfl rfl Ty.flat5 rfl hR39 rfl ?_
    cases hc44 : ((t32.kind : Int) == 1) with
    | false =>
     refine WL.eql rfl rfl rfl rfl hc44 ?_
     have hp44 := beq_eq_false_iff_ne.1 hc44
     refine pT ?_
     refine asg ?_
     refine WL.dn ?_
     refine cF ?_
     refine WC.region ?_
     refine mv ?_
     refine WL.load_box rfl rfl rfl hR39 Ty.agg30 ?_
     have h45 := ((hn32.ext hE37).bu hB40)
     refine WL.buildSlice (vs := [.agg (tcells t32 (.slice a32 t32.subs.length cap32)).toArray]) (cells := (tcells t32 (.slice a32 t32.subs.length cap32))) rfl rfl Ty.slice24 Ty.zero30 rfl rfl rfl rfl rfl rfl (fun b46 w51 hb47 hE50 hs48 hR49 => ?_)
     have hts46 := (NodesV.lit (n := 1) (ts := [t32]) hR49 (RowsL.cons (h45.ext hE50) (RowsL.nil' _)) rfl rfl (by decide)).lt
     have h52 := (((hO.ext hE37).but hB40 (fun h1 => by have := hD _ h1; first | omega | (dsimp only at h1; omega)) (fun hk => by have := (hO.ext hE37).own _ hk; have := hol _ hk; omega)).ext hE50)
     have hol53 := h52.own
     refine WL.append1 rfl rfl Ty.slice24 Ty.zero30 rfl small_node rfl rfl h52 hR49 (h45.ext hE50) (by intro k h1 hh; have := hol53 _ hh; have := hol _ hh; first | omega | ((try dsimp only at h1); (repeat' first | (guard_hyp h1 : _ ∨ _; refine Or.elim h1 (fun h1 => ?_) (fun h1 => ?_)) | (guard_hyp h1 : _ ∧ _; have hx := h1.2; replace h1 := h1.1)) <;> first | contradiction | omega)) (by have h1 := Nd.sizeL_take ht32; have h2 := Nd.flatJ_len kind ([T, U].take k); have h3 := Nd.size_subs t32; have h4 := Nd.length_le_sizeL t32.subs; have h5 : Nd.sizeL [T, U] = T.size + U.size := (by simp [Nd.sizeL]); omega) (by omega) ?_
     intro v53 w53 hG53 hO53 hv53
     have hE53 := grown_below hG53 ((hB40.onto (hE28.trans hE37) (by omega)).trans hE50) (by intro k hk; have := hol53 _ hk; omega)
     have hz53 := hE53.size
     have hzz53 := hG53.size
     refine asg ?_
     refine WL.dn ?_
     refine WC.region ?_
     refine WL.add (v := (k : Int) + 1) rfl rfl rfl rfl (IntWalk.i64_in _ (by omega)) ?_
     refine mv ?_
     refine WL.nil (fun a_ ha => ?_)
     have h54 := (grown_row hG53 ((hB40.row (hR6.ext hE37) (by omega)).ext hE50) (fun hh => by have := hol53 _ hh; have := hol _ hh; omega))
     have h55 := ((((hts.ext hE37).bu hB40).ext hE50).grown hG53 (by intro k h1 hlt hh; have := hol53 _ hh; have := hol _ hh; first | omega | ((try dsimp only at h1); (repeat' first | (guard_hyp h1 : _ ∨ _; refine Or.elim h1 (fun h1 => ?_) (fun h1 => ?_)) | (guard_hyp h1 : _ ∧ _; have hx := h1.2; replace h1 := h1.1)) <;> first | contradiction | omega)))
     exact ⟨(k + 1, v53), _, ha.weaken (s4 (sr rfl (sr rfl (subReg_nil _)))), ⟨rfl, hE53, ⟨by first | omega | (dsimp only; omega), by omega, h54, h55, (by dsimp only; simp only [Nd.flatJ_succ _ ht32, Nd.flatJ1, hc42, hc43, hc44, cond_true, cond_false, List.append_nil, Bool.true_and, Bool.false_and]; exact hO53.dom (by first | exact fun _ h _ _ => h | (rintro k h _ _; rcases h with h | h; exact h; first | exact h | exact h.1)))⟩⟩, by first | omega | (dsimp only; omega)⟩
    | true =>
     refine WL.eql rfl rfl rfl rfl hc44 ?_
     have hp44 := beq_iff_eq.1 hc44
     refine pT ?_
     refine asg ?_
     refine WL.dn ?_
     refine cT ?_
     refine WC.sk ?_
     refine WC.region ?_
     refine WL.add (v := (k : Int) + 1) rfl rfl rfl rfl (IntWalk.i64_in _ (by omega)) ?_
     refine mv ?_
     refine WL.nil (fun a_ ha => ?_)
     have h45 := ((hO.ext hE37).but hB40 (fun h1 => by have := hD _ h1; first | omega | (dsimp only at h1; omega)) (fun hk => by have := (hO.ext hE37).own _ hk; have := hol _ hk; omega))
     have h46 := (hB40.row (hR6.ext hE37) (by omega))
     have h47 := ((hts.ext hE37).bu hB40)
     exact ⟨(k + 1, v), _, ha.weaken (s4 (sr rfl (sr rfl (subReg_nil _)))), ⟨rfl, (hB40.onto (hE28.trans hE37) (by omega)), ⟨by first | omega | (dsimp only; omega), by omega, h46, h47, (by dsimp only; simp only [Nd.flatJ_succ _ ht32, Nd.flatJ1, hc42, hc43, hc44, cond_true, cond_false, List.append_nil, Bool.true_and, Bool.false_and]; exact h45.dom (by first | exact fun _ h _ _ => h | (rintro k h _ _; rcases h with h | h; exact h; first | exact h | exact h.1)))⟩⟩, by first | omega | (dsimp only; omega)⟩
  | true =>
   refine WL.eql rfl rfl rfl rfl hc42 ?_
   have hp42 := beq_iff_eq.1 hc42
   refine asg ?_
   refine WL.dn ?_
   refine cT ?_
   refine WC.region ?_
   refine mv ?_
   refine WL.fieldAddr rfl rfl Ty.fld30_4 rfl ?_
   refine WL.load_fld rfl rfl Ty.flat24 rfl hR39 rfl ?_
   have h43 := ((hO.ext hE37).but hB40 (fun h1 => by have := hD _ h1; first | omega | (dsimp only at h1; omega)) (fun hk => by have := (hO.ext hE37).own _ hk; have := hol _ hk; omega))
   have hol44 := h43.own
   have h45 := ((hts32.ext hE37).bu hB40)
   refine WL.appendV rfl rfl Ty.slice24 Ty.zero30 rfl small_node rfl rfl h43 h45 (by intro k h1 hh; have := hol44 _ hh; have := hol _ hh; first | omega | ((try dsimp only at h1); (repeat' first | (guard_hyp h1 : _ ∨ _; refine Or.elim h1 (fun h1 => ?_) (fun h1 => ?_)) | (guard_hyp h1 : _ ∧ _; have hx := h1.2; replace h1 := h1.1)) <;> first | contradiction | omega)) (by have h1 := Nd.sizeL_take ht32; have h2 := Nd.flatJ_len kind ([T, U].take k); have h3 := Nd.size_subs t32; have h4 := Nd.length_le_sizeL t32.subs; have h5 : Nd.sizeL [T, U] = T.size + U.size := (by simp [Nd.sizeL]); omega) (by omega) ?_
   intro v44 w44 hG44 hO44 hv44
   have hE44 := grown_below hG44 (hB40.onto (hE28.trans hE37) (by omega)) (by intro k hk; have := hol44 _ hk; omega)
   have hz44 := hE44.size
   have hzz44 := hG44.size
   refine asg ?_
   refine WL.dn ?_
   refine WC.region ?_
   refine WL.add (v := (k : Int) + 1) rfl rfl rfl rfl (IntWalk.i64_in _ (by omega)) ?_
   refine mv ?_
   refine WL.nil (fun a_ ha => ?_)
   have h46 := (grown_row hG44 (hB40.row (hR6.ext hE37) (by omega)) (fun hh => by have := hol44 _ hh; have := hol _ hh; omega))
   have h47 := (((hts.ext hE37).bu hB40).grown hG44 (by intro k h1 hlt hh; have := hol44 _ hh; have := hol _ hh; first | omega | ((try dsimp only at h1); (repeat' first | (guard_hyp h1 : _ ∨ _; refine Or.elim h1 (fun h1 => ?_) (fun h1 => ?_)) | (guard_hyp h1 : _ ∧ _; have hx := h1.2; replace h1 := h1.1)) <;> first | contradiction | omega)))
   exact ⟨(k + 1, v44), _, ha.weaken (s4 (sr rfl (sr rfl (subReg_nil _)))), ⟨rfl, hE44, ⟨by first | omega | (dsimp only; omega), by omega, h46, h47, (by dsimp only; simp only [Nd.flatJ_succ _ ht32, Nd.flatJ1, hc42, cond_true, cond_false, List.append_nil, Bool.true_and, Bool.false_and]; exact hO44.dom (by first | exact fun _ h _ _ => h | (rintro k h _ _; rcases h with h | h; exact h; first | exact h | exact h.1)))⟩⟩, by first | omega | (dsimp only; omega)⟩
end Go.Proofs.Yteenegaadlhjdaa
namespace Go.Proofs.Yteenegaadlhjdaa
open Go.RowKit
abbrev cells3 (x : Int × Int × Int) : List Value := [.int .u8 x.1, .int .u8 x.2.1, .int .u8 x.2.2]
def SmallV (D : Nat → Prop) (w : World) (sl : Value) (xs : List (Int × Int × Int)) : Prop :=
  (∃ a cap, sl = .slice a xs.length cap ∧ (xs.length ≤ cap ∧ xs.length ≤ 9223372036854775807) ∧
    (xs = [] ∨ ∃ b o, a = some ⟨b, o, none⟩ ∧ D b ∧ ∀ (i : Nat) (x : Int × Int × Int), xs[i]? = some x → Reads w b (o + i * 3) (cells3 x))) ∧
  ∀ x ∈ xs, (0 ≤ x.1 ∧ x.1 ≤ 255) ∧ (0 ≤ x.2.1 ∧ x.2.1 ≤ 255) ∧ 0 ≤ x.2.2 ∧ x.2.2 ≤ 255
theorem SmallV.ext {D : Nat → Prop} {w w' : World} {sl : Value} {xs : List (Int × Int × Int)} (h : SmallV D w sl xs) (e : Ext w w') : SmallV D w' sl xs := by
  obtain ⟨⟨a, cap, h1, h2, h3⟩, h4⟩ := h
  refine ⟨⟨a, cap, h1, h2, ?_⟩, h4⟩
  rcases h3 with h | ⟨b, o, ha, hd, hr⟩
  · exact .inl h
  · exact .inr ⟨b, o, ha, hd, fun i x hx => (hr i x hx).ext e⟩
theorem SmallV.len {D : Nat → Prop} {w : World} {a : Option Addr} {n cap : Nat} {xs : List (Int × Int × Int)} (h : SmallV D w (.slice a n cap) xs) : n = xs.length ∧ xs.length ≤ cap ∧ xs.length ≤ 9223372036854775807 := by
  obtain ⟨⟨a', cap', he, hc, _⟩, _⟩ := h
  cases he
  exact ⟨rfl, hc⟩
theorem SmallV.at {D : Nat → Prop} {w : World} {a : Option Addr} {n cap : Nat} {xs : List (Int × Int × Int)} (h : SmallV D w (.slice a n cap) xs) {i : Nat} {x : Int × Int × Int} (hx : xs[i]? = some x) :
    ∃ b o, a = some ⟨b, o, none⟩ ∧ Reads w b (o + i * 3) (cells3 x) ∧ (0 ≤ x.1 ∧ x.1 ≤ 255) ∧ (0 ≤ x.2.1 ∧ x.2.1 ≤ 255) ∧ 0 ≤ x.2.2 ∧ x.2.2 ≤ 255 := by
  obtain ⟨⟨a', cap', he, hc, h⟩, hb⟩ := h
  cases he
  rcases h with h | ⟨b, o, ha, _, hr⟩
  · rw [h] at hx; simp at hx
  · exact ⟨b, o, ha, hr i _ hx, hb x (List.mem_of_getElem? hx)⟩
theorem SmallV.take {D : Nat → Prop} {w : World} {a : Option Addr} {n cap m : Nat} {xs : List (Int × Int × Int)} (h : SmallV D w (.slice a n cap) xs) (hm : m ≤ xs.length) : SmallV D w (.slice a m cap) (xs.take m) := by
  obtain ⟨⟨a', cap', he, hc, h⟩, hb⟩ := h
  cases he
  refine ⟨⟨a, cap, by rw [List.length_take, Nat.min_eq_left hm], by rw [List.length_take]; omega, ?_⟩, fun x hx => hb x (List.mem_of_mem_take hx)⟩
  rcases h with h | ⟨b, o, ha, hd, hr⟩
  · left; rw [h]; simp
  · right
    refine ⟨b, o, ha, hd, fun i l hl => hr i l ?_⟩
    rw [List.getElem?_take] at hl
    split at hl
    · exact hl
    · cases hl
theorem SmallV.take25 {D : Nat → Prop} {w : World} {a : Option Addr} {n cap : Nat} {xs : List (Int × Int × Int)} (h : SmallV D w (.slice a n cap) xs) : SmallV D w (.slice a (xs.take 25).length cap) (xs.take 25) := by
  have h1 := h.take (m := (xs.take 25).length) (by rw [List.length_take]; omega)
  have e : xs.take (xs.take 25).length = xs.take 25 := by
    rw [List.length_take]
    rcases Nat.le_total 25 xs.length with h | h
    · rw [Nat.min_eq_left h]
    · rw [Nat.min_eq_right h, List.take_of_length_le (Nat.le_refl _), List.take_of_length_le h]
  rw [e] at h1; exact h1
theorem min25 (xs : List (Int × Int × Int)) : minI (xs.length : Int) 25 = ((xs.take 25).length : Int) := by
  rw [List.length_take]; unfold minI; split <;> omega
end Go.Proofs.Yteenegaadlhjdaa
