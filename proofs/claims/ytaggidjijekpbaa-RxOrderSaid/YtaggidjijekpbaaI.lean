/- Walks through the program's functions: each computes what the plain Lean function says. Printed by our own gen/r8.py. -/
import Derived.Test.YtaggidjijekpbaaH
import Derived.KernelRfl
namespace Go.Proofs.Ytaggidjijekpbaa
open Go.Proofs Go.RowKit

set_option maxRecDepth 20000 in
set_option maxHeartbeats 4000000 in
theorem awake_ok (w : World) :
    Calls Try.prog 8 #[] w fun e w' => e = .returned (.bool true) ∧ Ext w w' := by
  refine Calls.enter (args := []) Try.func8 rfl rfl rfl rfl ?_
  refine WC.seqk ?_
  refine WC.region ?_
  refine WL.assign rfl rfl rfl ?_
  refine WL.done' ?_ (fun _ _ h => h)
  refine WC.seqk ?_
  refine WC.region ?_
  refine WL.call rfl rfl rfl Ty.ent20 (class_ok _ ([97]) (by first | decide | exact Nd.lettersS_len _)) ?_
  rintro _ w3 ⟨l1, rfl, hr1, hE2⟩
  have hzhE2 := hE2.size
  refine ⟨_, rfl, ?_⟩
  have hn1 := hr1.lt
  obtain ⟨sl1, rfl, hts1⟩ := hn1.opn
  obtain ⟨a1, cap1, rfl, hlen1, -⟩ := hts1.get
  refine WL.call rfl rfl rfl Ty.ent20 (class_ok _ ([98]) (by first | decide | exact Nd.lettersS_len _)) ?_
  rintro _ w6 ⟨l4, rfl, hr4, hE5⟩
  have hzhE5 := hE5.size
  refine ⟨_, rfl, ?_⟩
  have hn4 := hr4.lt
  obtain ⟨sl4, rfl, hts4⟩ := hn4.opn
  obtain ⟨a4, cap4, rfl, hlen4, -⟩ := hts4.get
  refine WL.call rfl rfl rfl Ty.ent20 (class_ok _ ([99]) (by first | decide | exact Nd.lettersS_len _)) ?_
  rintro _ w9 ⟨l7, rfl, hr7, hE8⟩
  have hzhE8 := hE8.size
  refine ⟨_, rfl, ?_⟩
  have hn7 := hr7.lt
  obtain ⟨sl7, rfl, hts7⟩ := hn7.opn
  obtain ⟨a7, cap7, rfl, hlen7, -⟩ := hts7.get
  refine WL.build (l := [.int .u8 1, .int .u64 0, .int .u64 0, .int .u64 0, .int .u64 0, .int .i64 0, .int .i64 0, .slice none 0 0]) rfl rfl Ty.zero29 Ty.st29 ⟨⟨rfl, rfl⟩, (by kernel_rfl)⟩ ?_
  have hn10 : NodeL _ w9 [.int .u8 1, .int .u64 0, .int .u64 0, .int .u64 0, .int .u64 0, .int .i64 0, .int .i64 0, .slice none 0 0] (Nd.mk 1 Nd.zero 0 0 ([])) := NodeL.shut (k := 1) (s := Nd.zero) (mn := 0) (mx := 0) (sl := .slice none 0 0) (ts := []) (NodesV.nil (fun _ => False) _ none 0)
  have hn10 := hn10.lt
  refine WL.alloc rfl rfl Ty.zero29 rfl (fun b11 w16 hb12 hE15 hs13 hR14 => ?_)
  refine WL.alloc rfl rfl Ty.zero29 rfl (fun b17 w22 hb18 hE21 hs19 hR20 => ?_)
  refine WL.alloc rfl rfl Ty.zero29 rfl (fun b23 w28 hb24 hE27 hs25 hR26 => ?_)
  refine WL.alloc rfl rfl Ty.zero29 rfl (fun b29 w34 hb30 hE33 hs31 hR32 => ?_)
  have h37 := (((hR14.ext hE21).ext hE27).ext hE33)
  refine WL.store_box rfl rfl rfl h37 Ty.agg29 rfl rfl (fun w38 hB36 hR35 => ?_)
  have hzhB36 := hB36.size
  have h41 := (hB36.row ((hR20.ext hE27).ext hE33) (by omega))
  refine WL.store_box rfl rfl rfl h41 Ty.agg29 rfl rfl (fun w42 hB40 hR39 => ?_)
  have hzhB40 := hB40.size
  have h45 := (hB40.row (hB36.row (hR26.ext hE33) (by omega)) (by omega))
  refine WL.store_box rfl rfl rfl h45 Ty.agg29 rfl rfl (fun w46 hB44 hR43 => ?_)
  have hzhB44 := hB44.size
  have h49 := (hB44.row (hB40.row (hB36.row hR32 (by omega)) (by omega)) (by omega))
  refine WL.store_box rfl rfl rfl h49 Ty.agg29 rfl rfl (fun w50 hB48 hR47 => ?_)
  have hzhB48 := hB48.size
  refine WL.done' ?_ (fun _ _ h => h)
  refine WC.seqk ?_
  have h51 := ((((((((((hn1.ext hE5).ext hE8).ext hE15).ext hE21).ext hE27).ext hE33).but hB36 (by intro h1; first | omega | ((try dsimp only at h1); (repeat' first | (guard_hyp h1 : _ ∨ _; refine Or.elim h1 (fun h1 => ?_) (fun h1 => ?_)) | (guard_hyp h1 : _ ∧ _; have hx := h1.2; replace h1 := h1.1)) <;> first | contradiction | omega))).but hB40 (by intro h1; first | omega | ((try dsimp only at h1); (repeat' first | (guard_hyp h1 : _ ∨ _; refine Or.elim h1 (fun h1 => ?_) (fun h1 => ?_)) | (guard_hyp h1 : _ ∧ _; have hx := h1.2; replace h1 := h1.1)) <;> first | contradiction | omega))).but hB44 (by intro h1; first | omega | ((try dsimp only at h1); (repeat' first | (guard_hyp h1 : _ ∨ _; refine Or.elim h1 (fun h1 => ?_) (fun h1 => ?_)) | (guard_hyp h1 : _ ∧ _; have hx := h1.2; replace h1 := h1.1)) <;> first | contradiction | omega))).but hB48 (by intro h1; first | omega | ((try dsimp only at h1); (repeat' first | (guard_hyp h1 : _ ∨ _; refine Or.elim h1 (fun h1 => ?_) (fun h1 => ?_)) | (guard_hyp h1 : _ ∧ _; have hx := h1.2; replace h1 := h1.1)) <;> first | contradiction | omega)))
  have h52 := (((((((((hn4.ext hE8).ext hE15).ext hE21).ext hE27).ext hE33).but hB36 (by intro h1; first | omega | ((try dsimp only at h1); (repeat' first | (guard_hyp h1 : _ ∨ _; refine Or.elim h1 (fun h1 => ?_) (fun h1 => ?_)) | (guard_hyp h1 : _ ∧ _; have hx := h1.2; replace h1 := h1.1)) <;> first | contradiction | omega))).but hB40 (by intro h1; first | omega | ((try dsimp only at h1); (repeat' first | (guard_hyp h1 : _ ∨ _; refine Or.elim h1 (fun h1 => ?_) (fun h1 => ?_)) | (guard_hyp h1 : _ ∧ _; have hx := h1.2; replace h1 := h1.1)) <;> first | contradiction | omega))).but hB44 (by intro h1; first | omega | ((try dsimp only at h1); (repeat' first | (guard_hyp h1 : _ ∨ _; refine Or.elim h1 (fun h1 => ?_) (fun h1 => ?_)) | (guard_hyp h1 : _ ∧ _; have hx := h1.2; replace h1 := h1.1)) <;> first | contradiction | omega))).but hB48 (by intro h1; first | omega | ((try dsimp only at h1); (repeat' first | (guard_hyp h1 : _ ∨ _; refine Or.elim h1 (fun h1 => ?_) (fun h1 => ?_)) | (guard_hyp h1 : _ ∧ _; have hx := h1.2; replace h1 := h1.1)) <;> first | contradiction | omega)))
  have h53 := ((((((((hn7.ext hE15).ext hE21).ext hE27).ext hE33).but hB36 (by intro h1; first | omega | ((try dsimp only at h1); (repeat' first | (guard_hyp h1 : _ ∨ _; refine Or.elim h1 (fun h1 => ?_) (fun h1 => ?_)) | (guard_hyp h1 : _ ∧ _; have hx := h1.2; replace h1 := h1.1)) <;> first | contradiction | omega))).but hB40 (by intro h1; first | omega | ((try dsimp only at h1); (repeat' first | (guard_hyp h1 : _ ∨ _; refine Or.elim h1 (fun h1 => ?_) (fun h1 => ?_)) | (guard_hyp h1 : _ ∧ _; have hx := h1.2; replace h1 := h1.1)) <;> first | contradiction | omega))).but hB44 (by intro h1; first | omega | ((try dsimp only at h1); (repeat' first | (guard_hyp h1 : _ ∨ _; refine Or.elim h1 (fun h1 => ?_) (fun h1 => ?_)) | (guard_hyp h1 : _ ∧ _; have hx := h1.2; replace h1 := h1.1)) <;> first | contradiction | omega))).but hB48 (by intro h1; first | omega | ((try dsimp only at h1); (repeat' first | (guard_hyp h1 : _ ∨ _; refine Or.elim h1 (fun h1 => ?_) (fun h1 => ?_)) | (guard_hyp h1 : _ ∧ _; have hx := h1.2; replace h1 := h1.1)) <;> first | contradiction | omega)))
  have h54 := ((((((((hn10.ext hE15).ext hE21).ext hE27).ext hE33).but hB36 (by intro h1; first | omega | ((try dsimp only at h1); (repeat' first | (guard_hyp h1 : _ ∨ _; refine Or.elim h1 (fun h1 => ?_) (fun h1 => ?_)) | (guard_hyp h1 : _ ∧ _; have hx := h1.2; replace h1 := h1.1)) <;> first | contradiction | omega))).but hB40 (by intro h1; first | omega | ((try dsimp only at h1); (repeat' first | (guard_hyp h1 : _ ∨ _; refine Or.elim h1 (fun h1 => ?_) (fun h1 => ?_)) | (guard_hyp h1 : _ ∧ _; have hx := h1.2; replace h1 := h1.1)) <;> first | contradiction | omega))).but hB44 (by intro h1; first | omega | ((try dsimp only at h1); (repeat' first | (guard_hyp h1 : _ ∨ _; refine Or.elim h1 (fun h1 => ?_) (fun h1 => ?_)) | (guard_hyp h1 : _ ∧ _; have hx := h1.2; replace h1 := h1.1)) <;> first | contradiction | omega))).but hB48 (by intro h1; first | omega | ((try dsimp only at h1); (repeat' first | (guard_hyp h1 : _ ∨ _; refine Or.elim h1 (fun h1 => ?_) (fun h1 => ?_)) | (guard_hyp h1 : _ ∧ _; have hx := h1.2; replace h1 := h1.1)) <;> first | contradiction | omega)))
  have h55 := (hB48.row (hB44.row (hB40.row hR35 (by omega)) (by omega)) (by omega))
  have h56 := (hB48.row (hB44.row hR39 (by omega)) (by omega))
  refine WC.weaken (r' := [(0, .bool false), (1, .pointer (some ⟨b11, 0, none⟩)), (2, .pointer (some ⟨b17, 0, none⟩)), (3, .pointer (some ⟨b23, 0, none⟩)), (4, .pointer (some ⟨b29, 0, none⟩))]) (subReg_cons rfl (subReg_cons rfl (subReg_cons rfl (subReg_cons rfl (subReg_cons rfl (subReg_nil _)))))) ?_
  refine WC.draw 14 [13, 14, 15, 16, 17, 18, 19, 20, 21, 22, 23, 24, 5, 6] [pc (.agg #[.int .u8 (Nd.classS ([97])).kind, .int .u64 (Nd.classS ([97])).set.a, .int .u64 (Nd.classS ([97])).set.b, .int .u64 (Nd.classS ([97])).set.c, .int .u64 (Nd.classS ([97])).set.d, .int .i64 (Nd.classS ([97])).least, .int .i64 (Nd.classS ([97])).most, .slice a1 (Nd.classS ([97])).subs.length cap1]), pc (.agg #[.int .u8 (Nd.classS ([98])).kind, .int .u64 (Nd.classS ([98])).set.a, .int .u64 (Nd.classS ([98])).set.b, .int .u64 (Nd.classS ([98])).set.c, .int .u64 (Nd.classS ([98])).set.d, .int .i64 (Nd.classS ([98])).least, .int .i64 (Nd.classS ([98])).most, .slice a4 (Nd.classS ([98])).subs.length cap4]), pc (.agg #[.int .u8 (Nd.classS ([99])).kind, .int .u64 (Nd.classS ([99])).set.a, .int .u64 (Nd.classS ([99])).set.b, .int .u64 (Nd.classS ([99])).set.c, .int .u64 (Nd.classS ([99])).set.d, .int .i64 (Nd.classS ([99])).least, .int .i64 (Nd.classS ([99])).most, .slice a7 (Nd.classS ([99])).subs.length cap7]), pnode (fun _ => True) (Nd.mk 5 Nd.zero 0 (-1) [(Nd.classS ([99]))]), pnodes (fun _ => True) ([(Nd.classS ([98])), (Nd.mk 5 Nd.zero 0 (-1) [(Nd.classS ([99]))])]), pnode (fun _ => True) (Nd.mk 3 Nd.zero 0 0 ([(Nd.classS ([98])), (Nd.mk 5 Nd.zero 0 (-1) [(Nd.classS ([99]))])])), pnodes (fun _ => True) ([(Nd.classS ([97])), (Nd.mk 3 Nd.zero 0 0 ([(Nd.classS ([98])), (Nd.mk 5 Nd.zero 0 (-1) [(Nd.classS ([99]))])]))]), pnode (fun _ => True) (Nd.mk 4 Nd.zero 0 0 ([(Nd.classS ([97])), (Nd.mk 3 Nd.zero 0 0 ([(Nd.classS ([98])), (Nd.mk 5 Nd.zero 0 (-1) [(Nd.classS ([99]))])]))])), pc (.agg #[.int .u8 (Nd.classS ([97])).kind, .int .u64 (Nd.classS ([97])).set.a, .int .u64 (Nd.classS ([97])).set.b, .int .u64 (Nd.classS ([97])).set.c, .int .u64 (Nd.classS ([97])).set.d, .int .i64 (Nd.classS ([97])).least, .int .i64 (Nd.classS ([97])).most, .slice a1 (Nd.classS ([97])).subs.length cap1]), pnode (fun _ => True) (Nd.mk 5 Nd.zero 2 3 [(Nd.classS ([97]))]), pnode (fun _ => True) (Nd.mk 6 Nd.zero 0 0 [(Nd.mk 5 Nd.zero 2 3 [(Nd.classS ([97]))])]), pnode (fun _ => True) (Nd.mk 5 Nd.zero 4 4 [(Nd.mk 6 Nd.zero 0 0 [(Nd.mk 5 Nd.zero 2 3 [(Nd.classS ([97]))])])]), palloc 5 [.int .u8 0, .int .u64 0, .int .u64 0, .int .u64 0, .int .u64 0, .int .i64 0, .int .i64 0, .slice none 0 0] 29, palloc 6 [.int .u8 0, .int .u64 0, .int .u64 0, .int .u64 0, .int .u64 0, .int .i64 0, .int .i64 0, .slice none 0 0] 29] (by kernel_rfl) (by kernel_rfl) ⟨KW_pc _, KW_pc _, KW_pc _, KW_pnode _ _, KW_pnodes _ _, KW_pnode _ _, KW_pnodes _ _, KW_pnode _ _, KW_pc _, KW_pnode _ _, KW_pnode _ _, KW_pnode _ _, KW_palloc _ _ _, KW_palloc _ _ _, trivial⟩ rfl rfl rfl (StepsOn.cons ?_ (StepsOn.cons ?_ (StepsOn.cons ?_ (StepsOn.cons ?_ (StepsOn.cons ?_ (StepsOn.cons ?_ (StepsOn.cons ?_ (StepsOn.cons ?_ (StepsOn.cons ?_ (StepsOn.cons ?_ (StepsOn.cons ?_ (StepsOn.cons ?_ (StepsOn.cons ?_ (StepsOn.cons ?_ (StepsOn.nil _))))))))))))))) ?_
  · intro σ β w1 hE1 hbi hk
    have hz1 := hE1.size
    refine ⟨[], (agree_nil _), ?_⟩
    refine WL.load_box rfl rfl rfl (h55.ext hE1) Ty.agg29 ?_
    refine WL.nil (fun a_ ha => ?_)
    exact ⟨_, β, ha, (Ext.refl _), BExt.refl _ _, hbi.ext (Ext.refl _), rfl⟩
  · intro σ β w1 hE1 hbi hk
    have hz1 := hE1.size
    refine ⟨[], (agree_nil _), ?_⟩
    refine WL.load_box rfl rfl rfl (h56.ext hE1) Ty.agg29 ?_
    refine WL.nil (fun a_ ha => ?_)
    exact ⟨_, β, ha, (Ext.refl _), BExt.refl _ _, hbi.ext (Ext.refl _), rfl⟩
  · intro σ β w1 hE1 hbi hk
    have hz1 := hE1.size
    refine ⟨[], (agree_nil _), ?_⟩
    have h1357 := ((hB48.row hR43 (by omega)).ext hE1)
    refine WL.load_box rfl rfl rfl h1357 Ty.agg29 ?_
    refine WL.nil (fun a_ ha => ?_)
    exact ⟨_, β, ha, (Ext.refl _), BExt.refl _ _, hbi.ext (Ext.refl _), rfl⟩
  · intro σ β w1 hE1 hbi hk
    have hz1 := hE1.size
    obtain ⟨_, hv1457, rfl⟩ := hk 2 (by kernel_rfl) _ _ rfl rfl
    refine ⟨[(15, .agg #[.int .u8 (Nd.classS ([99])).kind, .int .u64 (Nd.classS ([99])).set.a, .int .u64 (Nd.classS ([99])).set.b, .int .u64 (Nd.classS ([99])).set.c, .int .u64 (Nd.classS ([99])).set.d, .int .i64 (Nd.classS ([99])).least, .int .i64 (Nd.classS ([99])).most, .slice a7 (Nd.classS ([99])).subs.length cap7])], (agree_cons (look_right rfl hv1457) (agree_nil _)), ?_⟩
    refine WL.call rfl rfl rfl Ty.ent23 (rep_ok _ _ _ (Nd.classS ([99])) 0 (-1) (h53.ext hE1)) ?_
    rintro _ w1460 ⟨l1458, rfl, hr1458, hE1459⟩
    have hzhE1459 := hE1459.size
    refine ⟨_, rfl, ?_⟩
    have hn1458 := hr1458.lt
    obtain ⟨sl1458, rfl, hts1458⟩ := hn1458.opn
    obtain ⟨a1458, cap1458, rfl, hlen1458, -⟩ := hts1458.get
    refine WL.nil (fun a_ ha => ?_)
    exact ⟨_, β, ha, hE1459, BExt.refl _ _, hbi.ext hE1459, ⟨_, rfl, (hr1458.lt.dom (by intro k h1; refine ⟨trivial, ?_, h1.2⟩; replace h1 := h1.1; intro x hxm; have hi := hbi.hi x hxm; have lo := hbi.lo x hxm; (try dsimp only at h1); (repeat' first | (guard_hyp h1 : _ ∨ _; refine Or.elim h1 (fun h1 => ?_) (fun h1 => ?_)) | (guard_hyp h1 : _ ∧ _; have hx := h1.2; replace h1 := h1.1)) <;> first | contradiction | omega | exact hx.1 x hxm))⟩⟩
  · intro σ β w1 hE1 hbi hk
    have hz1 := hE1.size
    obtain ⟨_, hv1557, rfl⟩ := hk 1 (by kernel_rfl) _ _ rfl rfl
    obtain ⟨_, hv1558, l1558, rfl, hn1558⟩ := hk 3 (by kernel_rfl) _ _ rfl rfl
    have hn1558 := hn1558.lt
    obtain ⟨sl1558, rfl, hts1558⟩ := hn1558.opn
    obtain ⟨a1558, cap1558, rfl, hlen1558, -⟩ := hts1558.get
    refine ⟨[(14, .agg #[.int .u8 (Nd.classS ([98])).kind, .int .u64 (Nd.classS ([98])).set.a, .int .u64 (Nd.classS ([98])).set.b, .int .u64 (Nd.classS ([98])).set.c, .int .u64 (Nd.classS ([98])).set.d, .int .i64 (Nd.classS ([98])).least, .int .i64 (Nd.classS ([98])).most, .slice a4 (Nd.classS ([98])).subs.length cap4]), (16, .agg #[.int .u8 (Nd.mk 5 Nd.zero 0 (-1) [(Nd.classS ([99]))]).kind, .int .u64 (Nd.mk 5 Nd.zero 0 (-1) [(Nd.classS ([99]))]).set.a, .int .u64 (Nd.mk 5 Nd.zero 0 (-1) [(Nd.classS ([99]))]).set.b, .int .u64 (Nd.mk 5 Nd.zero 0 (-1) [(Nd.classS ([99]))]).set.c, .int .u64 (Nd.mk 5 Nd.zero 0 (-1) [(Nd.classS ([99]))]).set.d, .int .i64 (Nd.mk 5 Nd.zero 0 (-1) [(Nd.classS ([99]))]).least, .int .i64 (Nd.mk 5 Nd.zero 0 (-1) [(Nd.classS ([99]))]).most, .slice a1558 (Nd.mk 5 Nd.zero 0 (-1) [(Nd.classS ([99]))]).subs.length cap1558])], (agree_cons (look_right rfl hv1557) (agree_cons (look_right rfl hv1558) (agree_nil _))), ?_⟩
    refine WL.buildSlice (vs := [.agg #[.int .u8 (Nd.classS ([98])).kind, .int .u64 (Nd.classS ([98])).set.a, .int .u64 (Nd.classS ([98])).set.b, .int .u64 (Nd.classS ([98])).set.c, .int .u64 (Nd.classS ([98])).set.d, .int .i64 (Nd.classS ([98])).least, .int .i64 (Nd.classS ([98])).most, .slice a4 (Nd.classS ([98])).subs.length cap4], .agg #[.int .u8 (Nd.mk 5 Nd.zero 0 (-1) [(Nd.classS ([99]))]).kind, .int .u64 (Nd.mk 5 Nd.zero 0 (-1) [(Nd.classS ([99]))]).set.a, .int .u64 (Nd.mk 5 Nd.zero 0 (-1) [(Nd.classS ([99]))]).set.b, .int .u64 (Nd.mk 5 Nd.zero 0 (-1) [(Nd.classS ([99]))]).set.c, .int .u64 (Nd.mk 5 Nd.zero 0 (-1) [(Nd.classS ([99]))]).set.d, .int .i64 (Nd.mk 5 Nd.zero 0 (-1) [(Nd.classS ([99]))]).least, .int .i64 (Nd.mk 5 Nd.zero 0 (-1) [(Nd.classS ([99]))]).most, .slice a1558 (Nd.mk 5 Nd.zero 0 (-1) [(Nd.classS ([99]))]).subs.length cap1558]]) (cells := [.int .u8 (Nd.classS ([98])).kind, .int .u64 (Nd.classS ([98])).set.a, .int .u64 (Nd.classS ([98])).set.b, .int .u64 (Nd.classS ([98])).set.c, .int .u64 (Nd.classS ([98])).set.d, .int .i64 (Nd.classS ([98])).least, .int .i64 (Nd.classS ([98])).most, .slice a4 (Nd.classS ([98])).subs.length cap4, .int .u8 (Nd.mk 5 Nd.zero 0 (-1) [(Nd.classS ([99]))]).kind, .int .u64 (Nd.mk 5 Nd.zero 0 (-1) [(Nd.classS ([99]))]).set.a, .int .u64 (Nd.mk 5 Nd.zero 0 (-1) [(Nd.classS ([99]))]).set.b, .int .u64 (Nd.mk 5 Nd.zero 0 (-1) [(Nd.classS ([99]))]).set.c, .int .u64 (Nd.mk 5 Nd.zero 0 (-1) [(Nd.classS ([99]))]).set.d, .int .i64 (Nd.mk 5 Nd.zero 0 (-1) [(Nd.classS ([99]))]).least, .int .i64 (Nd.mk 5 Nd.zero 0 (-1) [(Nd.classS ([99]))]).most, .slice a1558 (Nd.mk 5 Nd.zero 0 (-1) [(Nd.classS ([99]))]).subs.length cap1558]) rfl rfl Ty.slice27 Ty.zero29 rfl rfl rfl rfl rfl rfl (fun b1559 w1564 hb1560 hE1563 hs1561 hR1562 => ?_)
    have hts1559 := (NodesV.lit (n := 2) (ts := [(Nd.classS ([98])), (Nd.mk 5 Nd.zero 0 (-1) [(Nd.classS ([99]))])]) hR1562 (RowsL.cons ((h52.ext hE1).ext hE1563) (RowsL.cons (hn1558.ext hE1563) (RowsL.nil' _))) rfl rfl (by decide)).lt
    refine WL.nil (fun a_ ha => ?_)
    exact ⟨_, β, ha, hE1563, BExt.refl _ _, hbi.ext hE1563, ⟨_, _, rfl, (hts1559.dom (by intro k h1; refine ⟨trivial, ?_, h1.2⟩; replace h1 := h1.1; intro x hxm; have hi := hbi.hi x hxm; have lo := hbi.lo x hxm; (try dsimp only at h1); (repeat' first | (guard_hyp h1 : _ ∨ _; refine Or.elim h1 (fun h1 => ?_) (fun h1 => ?_)) | (guard_hyp h1 : _ ∧ _; have hx := h1.2; replace h1 := h1.1)) <;> first | contradiction | omega | exact hx.1 x hxm))⟩⟩
  · intro σ β w1 hE1 hbi hk
    have hz1 := hE1.size
    obtain ⟨_, hv1657, a1657, cap1657, rfl, hts1657⟩ := hk 4 (by kernel_rfl) _ _ rfl rfl
    have hts1657 := hts1657.lt
    have hlen1657 := hts1657.len
    refine ⟨[(17, .slice a1657 (([(Nd.classS ([98])), (Nd.mk 5 Nd.zero 0 (-1) [(Nd.classS ([99]))])]).length) cap1657)], (agree_cons (look_right rfl hv1657) (agree_nil _)), ?_⟩
    refine WL.call rfl rfl rfl Ty.ent21 (cat_ok _ _ _ _ ([(Nd.classS ([98])), (Nd.mk 5 Nd.zero 0 (-1) [(Nd.classS ([99]))])]) hts1657) ?_
    rintro _ w1660 ⟨l1658, rfl, hr1658, hE1659⟩
    have hzhE1659 := hE1659.size
    refine ⟨_, rfl, ?_⟩
    have hn1658 := hr1658.lt
    obtain ⟨sl1658, rfl, hts1658⟩ := hn1658.opn
    obtain ⟨a1658, cap1658, rfl, hlen1658, -⟩ := hts1658.get
    refine WL.nil (fun a_ ha => ?_)
    exact ⟨_, β, ha, hE1659, BExt.refl _ _, hbi.ext hE1659, ⟨_, rfl, (hr1658.lt.dom (by intro k h1; refine ⟨trivial, ?_, h1.2⟩; replace h1 := h1.1; intro x hxm; have hi := hbi.hi x hxm; have lo := hbi.lo x hxm; (try dsimp only at h1); (repeat' first | (guard_hyp h1 : _ ∨ _; refine Or.elim h1 (fun h1 => ?_) (fun h1 => ?_)) | (guard_hyp h1 : _ ∧ _; have hx := h1.2; replace h1 := h1.1)) <;> first | contradiction | omega | exact hx.1 x hxm))⟩⟩
  · intro σ β w1 hE1 hbi hk
    have hz1 := hE1.size
    obtain ⟨_, hv1757, rfl⟩ := hk 0 (by kernel_rfl) _ _ rfl rfl
    obtain ⟨_, hv1758, l1758, rfl, hn1758⟩ := hk 5 (by kernel_rfl) _ _ rfl rfl
    have hn1758 := hn1758.lt
    obtain ⟨sl1758, rfl, hts1758⟩ := hn1758.opn
    obtain ⟨a1758, cap1758, rfl, hlen1758, -⟩ := hts1758.get
    refine ⟨[(13, .agg #[.int .u8 (Nd.classS ([97])).kind, .int .u64 (Nd.classS ([97])).set.a, .int .u64 (Nd.classS ([97])).set.b, .int .u64 (Nd.classS ([97])).set.c, .int .u64 (Nd.classS ([97])).set.d, .int .i64 (Nd.classS ([97])).least, .int .i64 (Nd.classS ([97])).most, .slice a1 (Nd.classS ([97])).subs.length cap1]), (18, .agg #[.int .u8 (Nd.mk 3 Nd.zero 0 0 ([(Nd.classS ([98])), (Nd.mk 5 Nd.zero 0 (-1) [(Nd.classS ([99]))])])).kind, .int .u64 (Nd.mk 3 Nd.zero 0 0 ([(Nd.classS ([98])), (Nd.mk 5 Nd.zero 0 (-1) [(Nd.classS ([99]))])])).set.a, .int .u64 (Nd.mk 3 Nd.zero 0 0 ([(Nd.classS ([98])), (Nd.mk 5 Nd.zero 0 (-1) [(Nd.classS ([99]))])])).set.b, .int .u64 (Nd.mk 3 Nd.zero 0 0 ([(Nd.classS ([98])), (Nd.mk 5 Nd.zero 0 (-1) [(Nd.classS ([99]))])])).set.c, .int .u64 (Nd.mk 3 Nd.zero 0 0 ([(Nd.classS ([98])), (Nd.mk 5 Nd.zero 0 (-1) [(Nd.classS ([99]))])])).set.d, .int .i64 (Nd.mk 3 Nd.zero 0 0 ([(Nd.classS ([98])), (Nd.mk 5 Nd.zero 0 (-1) [(Nd.classS ([99]))])])).least, .int .i64 (Nd.mk 3 Nd.zero 0 0 ([(Nd.classS ([98])), (Nd.mk 5 Nd.zero 0 (-1) [(Nd.classS ([99]))])])).most, .slice a1758 (Nd.mk 3 Nd.zero 0 0 ([(Nd.classS ([98])), (Nd.mk 5 Nd.zero 0 (-1) [(Nd.classS ([99]))])])).subs.length cap1758])], (agree_cons (look_right rfl hv1757) (agree_cons (look_right rfl hv1758) (agree_nil _))), ?_⟩
    refine WL.buildSlice (vs := [.agg #[.int .u8 (Nd.classS ([97])).kind, .int .u64 (Nd.classS ([97])).set.a, .int .u64 (Nd.classS ([97])).set.b, .int .u64 (Nd.classS ([97])).set.c, .int .u64 (Nd.classS ([97])).set.d, .int .i64 (Nd.classS ([97])).least, .int .i64 (Nd.classS ([97])).most, .slice a1 (Nd.classS ([97])).subs.length cap1], .agg #[.int .u8 (Nd.mk 3 Nd.zero 0 0 ([(Nd.classS ([98])), (Nd.mk 5 Nd.zero 0 (-1) [(Nd.classS ([99]))])])).kind, .int .u64 (Nd.mk 3 Nd.zero 0 0 ([(Nd.classS ([98])), (Nd.mk 5 Nd.zero 0 (-1) [(Nd.classS ([99]))])])).set.a, .int .u64 (Nd.mk 3 Nd.zero 0 0 ([(Nd.classS ([98])), (Nd.mk 5 Nd.zero 0 (-1) [(Nd.classS ([99]))])])).set.b, .int .u64 (Nd.mk 3 Nd.zero 0 0 ([(Nd.classS ([98])), (Nd.mk 5 Nd.zero 0 (-1) [(Nd.classS ([99]))])])).set.c, .int .u64 (Nd.mk 3 Nd.zero 0 0 ([(Nd.classS ([98])), (Nd.mk 5 Nd.zero 0 (-1) [(Nd.classS ([99]))])])).set.d, .int .i64 (Nd.mk 3 Nd.zero 0 0 ([(Nd.classS ([98])), (Nd.mk 5 Nd.zero 0 (-1) [(Nd.classS ([99]))])])).least, .int .i64 (Nd.mk 3 Nd.zero 0 0 ([(Nd.classS ([98])), (Nd.mk 5 Nd.zero 0 (-1) [(Nd.classS ([99]))])])).most, .slice a1758 (Nd.mk 3 Nd.zero 0 0 ([(Nd.classS ([98])), (Nd.mk 5 Nd.zero 0 (-1) [(Nd.classS ([99]))])])).subs.length cap1758]]) (cells := [.int .u8 (Nd.classS ([97])).kind, .int .u64 (Nd.classS ([97])).set.a, .int .u64 (Nd.classS ([97])).set.b, .int .u64 (Nd.classS ([97])).set.c, .int .u64 (Nd.classS ([97])).set.d, .int .i64 (Nd.classS ([97])).least, .int .i64 (Nd.classS ([97])).most, .slice a1 (Nd.classS ([97])).subs.length cap1, .int .u8 (Nd.mk 3 Nd.zero 0 0 ([(Nd.classS ([98])), (Nd.mk 5 Nd.zero 0 (-1) [(Nd.classS ([99]))])])).kind, .int .u64 (Nd.mk 3 Nd.zero 0 0 ([(Nd.classS ([98])), (Nd.mk 5 Nd.zero 0 (-1) [(Nd.classS ([99]))])])).set.a, .int .u64 (Nd.mk 3 Nd.zero 0 0 ([(Nd.classS ([98])), (Nd.mk 5 Nd.zero 0 (-1) [(Nd.classS ([99]))])])).set.b, .int .u64 (Nd.mk 3 Nd.zero 0 0 ([(Nd.classS ([98])), (Nd.mk 5 Nd.zero 0 (-1) [(Nd.classS ([99]))])])).set.c, .int .u64 (Nd.mk 3 Nd.zero 0 0 ([(Nd.classS ([98])), (Nd.mk 5 Nd.zero 0 (-1) [(Nd.classS ([99]))])])).set.d, .int .i64 (Nd.mk 3 Nd.zero 0 0 ([(Nd.classS ([98])), (Nd.mk 5 Nd.zero 0 (-1) [(Nd.classS ([99]))])])).least, .int .i64 (Nd.mk 3 Nd.zero 0 0 ([(Nd.classS ([98])), (Nd.mk 5 Nd.zero 0 (-1) [(Nd.classS ([99]))])])).most, .slice a1758 (Nd.mk 3 Nd.zero 0 0 ([(Nd.classS ([98])), (Nd.mk 5 Nd.zero 0 (-1) [(Nd.classS ([99]))])])).subs.length cap1758]) rfl rfl Ty.slice27 Ty.zero29 rfl rfl rfl rfl rfl rfl (fun b1759 w1764 hb1760 hE1763 hs1761 hR1762 => ?_)
    have hts1759 := (NodesV.lit (n := 2) (ts := [(Nd.classS ([97])), (Nd.mk 3 Nd.zero 0 0 ([(Nd.classS ([98])), (Nd.mk 5 Nd.zero 0 (-1) [(Nd.classS ([99]))])]))]) hR1762 (RowsL.cons ((h51.ext hE1).ext hE1763) (RowsL.cons (hn1758.ext hE1763) (RowsL.nil' _))) rfl rfl (by decide)).lt
    refine WL.nil (fun a_ ha => ?_)
    exact ⟨_, β, ha, hE1763, BExt.refl _ _, hbi.ext hE1763, ⟨_, _, rfl, (hts1759.dom (by intro k h1; refine ⟨trivial, ?_, h1.2⟩; replace h1 := h1.1; intro x hxm; have hi := hbi.hi x hxm; have lo := hbi.lo x hxm; (try dsimp only at h1); (repeat' first | (guard_hyp h1 : _ ∨ _; refine Or.elim h1 (fun h1 => ?_) (fun h1 => ?_)) | (guard_hyp h1 : _ ∧ _; have hx := h1.2; replace h1 := h1.1)) <;> first | contradiction | omega | exact hx.1 x hxm))⟩⟩
  · intro σ β w1 hE1 hbi hk
    have hz1 := hE1.size
    obtain ⟨_, hv1857, a1857, cap1857, rfl, hts1857⟩ := hk 6 (by kernel_rfl) _ _ rfl rfl
    have hts1857 := hts1857.lt
    have hlen1857 := hts1857.len
    refine ⟨[(19, .slice a1857 (([(Nd.classS ([97])), (Nd.mk 3 Nd.zero 0 0 ([(Nd.classS ([98])), (Nd.mk 5 Nd.zero 0 (-1) [(Nd.classS ([99]))])]))]).length) cap1857)], (agree_cons (look_right rfl hv1857) (agree_nil _)), ?_⟩
    refine WL.call rfl rfl rfl Ty.ent22 (alt_ok _ _ _ _ ([(Nd.classS ([97])), (Nd.mk 3 Nd.zero 0 0 ([(Nd.classS ([98])), (Nd.mk 5 Nd.zero 0 (-1) [(Nd.classS ([99]))])]))]) hts1857) ?_
    rintro _ w1860 ⟨l1858, rfl, hr1858, hE1859⟩
    have hzhE1859 := hE1859.size
    refine ⟨_, rfl, ?_⟩
    have hn1858 := hr1858.lt
    obtain ⟨sl1858, rfl, hts1858⟩ := hn1858.opn
    obtain ⟨a1858, cap1858, rfl, hlen1858, -⟩ := hts1858.get
    refine WL.nil (fun a_ ha => ?_)
    exact ⟨_, β, ha, hE1859, BExt.refl _ _, hbi.ext hE1859, ⟨_, rfl, (hr1858.lt.dom (by intro k h1; refine ⟨trivial, ?_, h1.2⟩; replace h1 := h1.1; intro x hxm; have hi := hbi.hi x hxm; have lo := hbi.lo x hxm; (try dsimp only at h1); (repeat' first | (guard_hyp h1 : _ ∨ _; refine Or.elim h1 (fun h1 => ?_) (fun h1 => ?_)) | (guard_hyp h1 : _ ∧ _; have hx := h1.2; replace h1 := h1.1)) <;> first | contradiction | omega | exact hx.1 x hxm))⟩⟩
  · intro σ β w1 hE1 hbi hk
    have hz1 := hE1.size
    refine ⟨[], (agree_nil _), ?_⟩
    refine WL.load_box rfl rfl rfl (h55.ext hE1) Ty.agg29 ?_
    refine WL.nil (fun a_ ha => ?_)
    exact ⟨_, β, ha, (Ext.refl _), BExt.refl _ _, hbi.ext (Ext.refl _), rfl⟩
  · intro σ β w1 hE1 hbi hk
    have hz1 := hE1.size
    obtain ⟨_, hv2057, rfl⟩ := hk 8 (by kernel_rfl) _ _ rfl rfl
    refine ⟨[(21, .agg #[.int .u8 (Nd.classS ([97])).kind, .int .u64 (Nd.classS ([97])).set.a, .int .u64 (Nd.classS ([97])).set.b, .int .u64 (Nd.classS ([97])).set.c, .int .u64 (Nd.classS ([97])).set.d, .int .i64 (Nd.classS ([97])).least, .int .i64 (Nd.classS ([97])).most, .slice a1 (Nd.classS ([97])).subs.length cap1])], (agree_cons (look_right rfl hv2057) (agree_nil _)), ?_⟩
    refine WL.call rfl rfl rfl Ty.ent23 (rep_ok _ _ _ (Nd.classS ([97])) 2 3 (h51.ext hE1)) ?_
    rintro _ w2060 ⟨l2058, rfl, hr2058, hE2059⟩
    have hzhE2059 := hE2059.size
    refine ⟨_, rfl, ?_⟩
    have hn2058 := hr2058.lt
    obtain ⟨sl2058, rfl, hts2058⟩ := hn2058.opn
    obtain ⟨a2058, cap2058, rfl, hlen2058, -⟩ := hts2058.get
    refine WL.nil (fun a_ ha => ?_)
    exact ⟨_, β, ha, hE2059, BExt.refl _ _, hbi.ext hE2059, ⟨_, rfl, (hr2058.lt.dom (by intro k h1; refine ⟨trivial, ?_, h1.2⟩; replace h1 := h1.1; intro x hxm; have hi := hbi.hi x hxm; have lo := hbi.lo x hxm; (try dsimp only at h1); (repeat' first | (guard_hyp h1 : _ ∨ _; refine Or.elim h1 (fun h1 => ?_) (fun h1 => ?_)) | (guard_hyp h1 : _ ∧ _; have hx := h1.2; replace h1 := h1.1)) <;> first | contradiction | omega | exact hx.1 x hxm))⟩⟩
  · intro σ β w1 hE1 hbi hk
    have hz1 := hE1.size
    obtain ⟨_, hv2157, l2157, rfl, hn2157⟩ := hk 9 (by kernel_rfl) _ _ rfl rfl
    have hn2157 := hn2157.lt
    obtain ⟨sl2157, rfl, hts2157⟩ := hn2157.opn
    obtain ⟨a2157, cap2157, rfl, hlen2157, -⟩ := hts2157.get
    refine ⟨[(22, .agg #[.int .u8 (Nd.mk 5 Nd.zero 2 3 [(Nd.classS ([97]))]).kind, .int .u64 (Nd.mk 5 Nd.zero 2 3 [(Nd.classS ([97]))]).set.a, .int .u64 (Nd.mk 5 Nd.zero 2 3 [(Nd.classS ([97]))]).set.b, .int .u64 (Nd.mk 5 Nd.zero 2 3 [(Nd.classS ([97]))]).set.c, .int .u64 (Nd.mk 5 Nd.zero 2 3 [(Nd.classS ([97]))]).set.d, .int .i64 (Nd.mk 5 Nd.zero 2 3 [(Nd.classS ([97]))]).least, .int .i64 (Nd.mk 5 Nd.zero 2 3 [(Nd.classS ([97]))]).most, .slice a2157 (Nd.mk 5 Nd.zero 2 3 [(Nd.classS ([97]))]).subs.length cap2157])], (agree_cons (look_right rfl hv2157) (agree_nil _)), ?_⟩
    refine WL.call rfl rfl rfl Ty.ent24 (group_ok _ _ _ (Nd.mk 5 Nd.zero 2 3 [(Nd.classS ([97]))]) hn2157) ?_
    rintro _ w2160 ⟨l2158, rfl, hr2158, hE2159⟩
    have hzhE2159 := hE2159.size
    refine ⟨_, rfl, ?_⟩
    have hn2158 := hr2158.lt
    obtain ⟨sl2158, rfl, hts2158⟩ := hn2158.opn
    obtain ⟨a2158, cap2158, rfl, hlen2158, -⟩ := hts2158.get
    refine WL.nil (fun a_ ha => ?_)
    exact ⟨_, β, ha, hE2159, BExt.refl _ _, hbi.ext hE2159, ⟨_, rfl, (hr2158.lt.dom (by intro k h1; refine ⟨trivial, ?_, h1.2⟩; replace h1 := h1.1; intro x hxm; have hi := hbi.hi x hxm; have lo := hbi.lo x hxm; (try dsimp only at h1); (repeat' first | (guard_hyp h1 : _ ∨ _; refine Or.elim h1 (fun h1 => ?_) (fun h1 => ?_)) | (guard_hyp h1 : _ ∧ _; have hx := h1.2; replace h1 := h1.1)) <;> first | contradiction | omega | exact hx.1 x hxm))⟩⟩
  · intro σ β w1 hE1 hbi hk
    have hz1 := hE1.size
    obtain ⟨_, hv2257, l2257, rfl, hn2257⟩ := hk 10 (by kernel_rfl) _ _ rfl rfl
    have hn2257 := hn2257.lt
    obtain ⟨sl2257, rfl, hts2257⟩ := hn2257.opn
    obtain ⟨a2257, cap2257, rfl, hlen2257, -⟩ := hts2257.get
    refine ⟨[(23, .agg #[.int .u8 (Nd.mk 6 Nd.zero 0 0 [(Nd.mk 5 Nd.zero 2 3 [(Nd.classS ([97]))])]).kind, .int .u64 (Nd.mk 6 Nd.zero 0 0 [(Nd.mk 5 Nd.zero 2 3 [(Nd.classS ([97]))])]).set.a, .int .u64 (Nd.mk 6 Nd.zero 0 0 [(Nd.mk 5 Nd.zero 2 3 [(Nd.classS ([97]))])]).set.b, .int .u64 (Nd.mk 6 Nd.zero 0 0 [(Nd.mk 5 Nd.zero 2 3 [(Nd.classS ([97]))])]).set.c, .int .u64 (Nd.mk 6 Nd.zero 0 0 [(Nd.mk 5 Nd.zero 2 3 [(Nd.classS ([97]))])]).set.d, .int .i64 (Nd.mk 6 Nd.zero 0 0 [(Nd.mk 5 Nd.zero 2 3 [(Nd.classS ([97]))])]).least, .int .i64 (Nd.mk 6 Nd.zero 0 0 [(Nd.mk 5 Nd.zero 2 3 [(Nd.classS ([97]))])]).most, .slice a2257 (Nd.mk 6 Nd.zero 0 0 [(Nd.mk 5 Nd.zero 2 3 [(Nd.classS ([97]))])]).subs.length cap2257])], (agree_cons (look_right rfl hv2257) (agree_nil _)), ?_⟩
    refine WL.call rfl rfl rfl Ty.ent23 (rep_ok _ _ _ (Nd.mk 6 Nd.zero 0 0 [(Nd.mk 5 Nd.zero 2 3 [(Nd.classS ([97]))])]) 4 4 hn2257) ?_
    rintro _ w2260 ⟨l2258, rfl, hr2258, hE2259⟩
    have hzhE2259 := hE2259.size
    refine ⟨_, rfl, ?_⟩
    have hn2258 := hr2258.lt
    obtain ⟨sl2258, rfl, hts2258⟩ := hn2258.opn
    obtain ⟨a2258, cap2258, rfl, hlen2258, -⟩ := hts2258.get
    refine WL.nil (fun a_ ha => ?_)
    exact ⟨_, β, ha, hE2259, BExt.refl _ _, hbi.ext hE2259, ⟨_, rfl, (hr2258.lt.dom (by intro k h1; refine ⟨trivial, ?_, h1.2⟩; replace h1 := h1.1; intro x hxm; have hi := hbi.hi x hxm; have lo := hbi.lo x hxm; (try dsimp only at h1); (repeat' first | (guard_hyp h1 : _ ∨ _; refine Or.elim h1 (fun h1 => ?_) (fun h1 => ?_)) | (guard_hyp h1 : _ ∧ _; have hx := h1.2; replace h1 := h1.1)) <;> first | contradiction | omega | exact hx.1 x hxm))⟩⟩
  · intro σ β w1 hE1 hbi hk
    have hz1 := hE1.size
    refine ⟨[], (agree_nil _), ?_⟩
    refine WL.alloc rfl rfl Ty.zero29 rfl (fun b2357 w2362 hb2358 hE2361 hs2359 hR2360 => ?_)
    refine WL.nil (fun a_ ha => ?_)
    exact ⟨_, (5, b2357) :: β, ha, hE2361, BExt.cons (Nat.le_of_eq hb2358.symm), hbi.cons hE2361 hE1.size (Nat.le_of_eq hb2358.symm) hR2360.lt, b2357, rfl, hR2360, .head _⟩
  · intro σ β w1 hE1 hbi hk
    have hz1 := hE1.size
    refine ⟨[], (agree_nil _), ?_⟩
    refine WL.alloc rfl rfl Ty.zero29 rfl (fun b2457 w2462 hb2458 hE2461 hs2459 hR2460 => ?_)
    refine WL.nil (fun a_ ha => ?_)
    exact ⟨_, (6, b2457) :: β, ha, hE2461, BExt.cons (Nat.le_of_eq hb2458.symm), hbi.cons hE2461 hE1.size (Nat.le_of_eq hb2458.symm) hR2460.lt, b2457, rfl, hR2460, .head _⟩
  intro σ β w956 hE956 hbi956 hk
  have hz956 := hE956.size
  have hbi := hbi956
  obtain ⟨_, hv957, b957, rfl, hR957, hm957⟩ := hk 12 (by decide) _ _ rfl rfl
  have hlo957 := hbi.lo _ hm957
  have hhi957 := hbi.hi _ hm957
  obtain ⟨_, hv958, b958, rfl, hR958, hm958⟩ := hk 13 (by decide) _ _ rfl rfl
  have hlo958 := hbi.lo _ hm958
  have hhi958 := hbi.hi _ hm958
  have hne958_957 : b958 ≠ b957 := fun h => by have := hbi.one _ _ hm958 hm957 h; simp at this
  have hne957_958 := hne958_957.symm
  obtain ⟨_, hv959, l959, rfl, hn959⟩ := hk 7 (by decide) _ _ rfl rfl
  have hn959 := hn959.dom (D' := fun k => ((True) ∧ b957 ≠ k ∧ b958 ≠ k) ∧ k < w956.heap.size) (fun k h => ⟨⟨h.1, h.2.1 _ hm957, h.2.1 _ hm958⟩, h.2.2⟩)
  obtain ⟨sl959, rfl, hts959⟩ := hn959.opn
  obtain ⟨a959, cap959, rfl, hlen959, -⟩ := hts959.get
  obtain ⟨_, hv960, l960, rfl, hn960⟩ := hk 11 (by decide) _ _ rfl rfl
  have hn960 := hn960.dom (D' := fun k => ((True) ∧ b957 ≠ k ∧ b958 ≠ k) ∧ k < w956.heap.size) (fun k h => ⟨⟨h.1, h.2.1 _ hm957, h.2.1 _ hm958⟩, h.2.2⟩)
  obtain ⟨sl960, rfl, hts960⟩ := hn960.opn
  obtain ⟨a960, cap960, rfl, hlen960, -⟩ := hts960.get
  refine WL.know [(5, .pointer (some ⟨b957, 0, none⟩)), (6, .pointer (some ⟨b958, 0, none⟩)), (20, .agg #[.int .u8 (Nd.mk 4 Nd.zero 0 0 ([(Nd.classS ([97])), (Nd.mk 3 Nd.zero 0 0 ([(Nd.classS ([98])), (Nd.mk 5 Nd.zero 0 (-1) [(Nd.classS ([99]))])]))])).kind, .int .u64 (Nd.mk 4 Nd.zero 0 0 ([(Nd.classS ([97])), (Nd.mk 3 Nd.zero 0 0 ([(Nd.classS ([98])), (Nd.mk 5 Nd.zero 0 (-1) [(Nd.classS ([99]))])]))])).set.a, .int .u64 (Nd.mk 4 Nd.zero 0 0 ([(Nd.classS ([97])), (Nd.mk 3 Nd.zero 0 0 ([(Nd.classS ([98])), (Nd.mk 5 Nd.zero 0 (-1) [(Nd.classS ([99]))])]))])).set.b, .int .u64 (Nd.mk 4 Nd.zero 0 0 ([(Nd.classS ([97])), (Nd.mk 3 Nd.zero 0 0 ([(Nd.classS ([98])), (Nd.mk 5 Nd.zero 0 (-1) [(Nd.classS ([99]))])]))])).set.c, .int .u64 (Nd.mk 4 Nd.zero 0 0 ([(Nd.classS ([97])), (Nd.mk 3 Nd.zero 0 0 ([(Nd.classS ([98])), (Nd.mk 5 Nd.zero 0 (-1) [(Nd.classS ([99]))])]))])).set.d, .int .i64 (Nd.mk 4 Nd.zero 0 0 ([(Nd.classS ([97])), (Nd.mk 3 Nd.zero 0 0 ([(Nd.classS ([98])), (Nd.mk 5 Nd.zero 0 (-1) [(Nd.classS ([99]))])]))])).least, .int .i64 (Nd.mk 4 Nd.zero 0 0 ([(Nd.classS ([97])), (Nd.mk 3 Nd.zero 0 0 ([(Nd.classS ([98])), (Nd.mk 5 Nd.zero 0 (-1) [(Nd.classS ([99]))])]))])).most, .slice a959 (Nd.mk 4 Nd.zero 0 0 ([(Nd.classS ([97])), (Nd.mk 3 Nd.zero 0 0 ([(Nd.classS ([98])), (Nd.mk 5 Nd.zero 0 (-1) [(Nd.classS ([99]))])]))])).subs.length cap959]), (24, .agg #[.int .u8 (Nd.mk 5 Nd.zero 4 4 [(Nd.mk 6 Nd.zero 0 0 [(Nd.mk 5 Nd.zero 2 3 [(Nd.classS ([97]))])])]).kind, .int .u64 (Nd.mk 5 Nd.zero 4 4 [(Nd.mk 6 Nd.zero 0 0 [(Nd.mk 5 Nd.zero 2 3 [(Nd.classS ([97]))])])]).set.a, .int .u64 (Nd.mk 5 Nd.zero 4 4 [(Nd.mk 6 Nd.zero 0 0 [(Nd.mk 5 Nd.zero 2 3 [(Nd.classS ([97]))])])]).set.b, .int .u64 (Nd.mk 5 Nd.zero 4 4 [(Nd.mk 6 Nd.zero 0 0 [(Nd.mk 5 Nd.zero 2 3 [(Nd.classS ([97]))])])]).set.c, .int .u64 (Nd.mk 5 Nd.zero 4 4 [(Nd.mk 6 Nd.zero 0 0 [(Nd.mk 5 Nd.zero 2 3 [(Nd.classS ([97]))])])]).set.d, .int .i64 (Nd.mk 5 Nd.zero 4 4 [(Nd.mk 6 Nd.zero 0 0 [(Nd.mk 5 Nd.zero 2 3 [(Nd.classS ([97]))])])]).least, .int .i64 (Nd.mk 5 Nd.zero 4 4 [(Nd.mk 6 Nd.zero 0 0 [(Nd.mk 5 Nd.zero 2 3 [(Nd.classS ([97]))])])]).most, .slice a960 (Nd.mk 5 Nd.zero 4 4 [(Nd.mk 6 Nd.zero 0 0 [(Nd.mk 5 Nd.zero 2 3 [(Nd.classS ([97]))])])]).subs.length cap960])] (agree_cons (look_right rfl hv957) (agree_cons (look_right rfl hv958) (agree_cons (look_right rfl hv959) (agree_cons (look_right rfl hv960) (agree_nil _))))) ?_
  refine WL.store_box rfl rfl rfl hR957 Ty.agg29 rfl rfl (fun w963 hB962 hR961 => ?_)
  have hzhB962 := hB962.size
  refine WL.store_box rfl rfl rfl (hB962.row hR958 (by omega)) Ty.agg29 rfl rfl (fun w966 hB965 hR964 => ?_)
  have hzhB965 := hB965.size
  refine WL.done' ?_ (fun _ _ h => h)
  refine WC.seqk ?_
  refine WC.seqk ?_
  refine WC.region ?_
  refine WL.load_box rfl rfl rfl (hB965.row hR961 (by omega)) Ty.agg29 ?_
  have h967 := ((hn959.but hB962 (by intro h1; first | omega | ((try dsimp only at h1); (repeat' first | (guard_hyp h1 : _ ∨ _; refine Or.elim h1 (fun h1 => ?_) (fun h1 => ?_)) | (guard_hyp h1 : _ ∧ _; have hx := h1.2; replace h1 := h1.1)) <;> first | contradiction | omega))).but hB965 (by intro h1; first | omega | ((try dsimp only at h1); (repeat' first | (guard_hyp h1 : _ ∨ _; refine Or.elim h1 (fun h1 => ?_) (fun h1 => ?_)) | (guard_hyp h1 : _ ∧ _; have hx := h1.2; replace h1 := h1.1)) <;> first | contradiction | omega)))
  refine WL.call rfl rfl rfl Ty.ent16 (size_ok _ _ _ _ h967) ?_
  rintro _ w969 ⟨rfl, hE968⟩
  have hzhE968 := hE968.size
  refine ⟨_, rfl, ?_⟩
  refine WL.neq (b := false) rfl rfl rfl rfl (by kernel_rfl) ?_
  refine WL.move rfl rfl rfl ?_
  have h970 := ((hB965.row hR961 (by omega)).ext hE968)
  refine WL.load_box rfl rfl rfl h970 Ty.agg29 ?_
  refine WL.call rfl rfl rfl Ty.ent15 (Positions_ok _ _ _ _ (h967.ext hE968)) ?_
  rintro _ w972 ⟨rfl, hE971⟩
  have hzhE971 := hE971.size
  refine ⟨_, rfl, ?_⟩
  refine WL.neq (b := false) rfl rfl rfl rfl (by kernel_rfl) ?_
  refine WL.pick_f rfl rfl rfl rfl ?_
  refine WL.move rfl rfl rfl ?_
  refine WL.load_box rfl rfl rfl (h970.ext hE971) Ty.agg29 ?_
  have h973 := ((h967.ext hE968).ext hE971)
  refine WL.call rfl rfl rfl Ty.ent17 (groups_ok _ _ _ _ h973) ?_
  rintro _ w975 ⟨rfl, hE974⟩
  have hzhE974 := hE974.size
  refine ⟨_, rfl, ?_⟩
  refine WL.neq (b := false) rfl rfl rfl rfl (by kernel_rfl) ?_
  refine WL.pick_f rfl rfl rfl rfl ?_
  refine WL.move rfl rfl rfl ?_
  have h976 := ((h970.ext hE971).ext hE974)
  refine WL.load_box rfl rfl rfl h976 Ty.agg29 ?_
  refine WL.call rfl rfl rfl Ty.ent12 (clean_ok _ _ _ _ (h973.ext hE974)) ?_
  rintro _ w978 ⟨he, hE977⟩
  have hq : (Nd.clean (Nd.mk 4 Nd.zero 0 0 ([(Nd.classS ([97])), (Nd.mk 3 Nd.zero 0 0 ([(Nd.classS ([98])), (Nd.mk 5 Nd.zero 0 (-1) [(Nd.classS ([99]))])]))]))) = true := (by kernel_rfl)
  rw [hq] at he
  subst he
  clear hq
  have hzhE977 := hE977.size
  refine ⟨_, rfl, ?_⟩
  refine WL.not rfl rfl rfl ?_
  refine WL.pick_f rfl rfl rfl rfl ?_
  refine WL.move rfl rfl rfl ?_
  have h979 := ((((hR964.ext hE968).ext hE971).ext hE974).ext hE977)
  refine WL.load_box rfl rfl rfl h979 Ty.agg29 ?_
  have h980 := ((((((hn960.but hB962 (by intro h1; first | omega | ((try dsimp only at h1); (repeat' first | (guard_hyp h1 : _ ∨ _; refine Or.elim h1 (fun h1 => ?_) (fun h1 => ?_)) | (guard_hyp h1 : _ ∧ _; have hx := h1.2; replace h1 := h1.1)) <;> first | contradiction | omega))).but hB965 (by intro h1; first | omega | ((try dsimp only at h1); (repeat' first | (guard_hyp h1 : _ ∨ _; refine Or.elim h1 (fun h1 => ?_) (fun h1 => ?_)) | (guard_hyp h1 : _ ∧ _; have hx := h1.2; replace h1 := h1.1)) <;> first | contradiction | omega))).ext hE968).ext hE971).ext hE974).ext hE977)
  refine WL.call rfl rfl rfl Ty.ent16 (size_ok _ _ _ _ h980) ?_
  rintro _ w982 ⟨rfl, hE981⟩
  have hzhE981 := hE981.size
  refine ⟨_, rfl, ?_⟩
  refine WL.neq (b := false) rfl rfl rfl rfl (by kernel_rfl) ?_
  refine WL.pick_f rfl rfl rfl rfl ?_
  refine WL.move rfl rfl rfl ?_
  refine WL.load_box rfl rfl rfl (h979.ext hE981) Ty.agg29 ?_
  refine WL.call rfl rfl rfl Ty.ent15 (Positions_ok _ _ _ _ (h980.ext hE981)) ?_
  rintro _ w984 ⟨rfl, hE983⟩
  have hzhE983 := hE983.size
  refine ⟨_, rfl, ?_⟩
  refine WL.neq (b := false) rfl rfl rfl rfl (by kernel_rfl) ?_
  refine WL.pick_f rfl rfl rfl rfl ?_
  refine WL.move rfl rfl rfl ?_
  have h985 := ((h979.ext hE981).ext hE983)
  refine WL.load_box rfl rfl rfl h985 Ty.agg29 ?_
  have h986 := ((h980.ext hE981).ext hE983)
  refine WL.call rfl rfl rfl Ty.ent17 (groups_ok _ _ _ _ h986) ?_
  rintro _ w988 ⟨rfl, hE987⟩
  have hzhE987 := hE987.size
  refine ⟨_, rfl, ?_⟩
  refine WL.neq (b := false) rfl rfl rfl rfl (by kernel_rfl) ?_
  refine WL.pick_f rfl rfl rfl rfl ?_
  refine WL.move rfl rfl rfl ?_
  refine WL.load_box rfl rfl rfl (h985.ext hE987) Ty.agg29 ?_
  refine WL.call rfl rfl rfl Ty.ent12 (clean_ok _ _ _ _ (h986.ext hE987)) ?_
  rintro _ w990 ⟨he, hE989⟩
  have hq : (Nd.clean (Nd.mk 5 Nd.zero 4 4 [(Nd.mk 6 Nd.zero 0 0 [(Nd.mk 5 Nd.zero 2 3 [(Nd.classS ([97]))])])])) = true := (by kernel_rfl)
  rw [hq] at he
  subst he
  clear hq
  have hzhE989 := hE989.size
  refine ⟨_, rfl, ?_⟩
  refine WL.not rfl rfl rfl ?_
  refine WL.pick_f rfl rfl rfl rfl ?_
  refine WL.move rfl rfl rfl ?_
  have h991 := ((h985.ext hE987).ext hE989)
  refine WL.load_box rfl rfl rfl h991 Ty.agg29 ?_
  refine WL.build (l := [.bool false, .bool false, .int .u8 (Nd.mk 5 Nd.zero 4 4 [(Nd.mk 6 Nd.zero 0 0 [(Nd.mk 5 Nd.zero 2 3 [(Nd.classS ([97]))])])]).kind, .int .u64 (Nd.mk 5 Nd.zero 4 4 [(Nd.mk 6 Nd.zero 0 0 [(Nd.mk 5 Nd.zero 2 3 [(Nd.classS ([97]))])])]).set.a, .int .u64 (Nd.mk 5 Nd.zero 4 4 [(Nd.mk 6 Nd.zero 0 0 [(Nd.mk 5 Nd.zero 2 3 [(Nd.classS ([97]))])])]).set.b, .int .u64 (Nd.mk 5 Nd.zero 4 4 [(Nd.mk 6 Nd.zero 0 0 [(Nd.mk 5 Nd.zero 2 3 [(Nd.classS ([97]))])])]).set.c, .int .u64 (Nd.mk 5 Nd.zero 4 4 [(Nd.mk 6 Nd.zero 0 0 [(Nd.mk 5 Nd.zero 2 3 [(Nd.classS ([97]))])])]).set.d, .int .i64 (Nd.mk 5 Nd.zero 4 4 [(Nd.mk 6 Nd.zero 0 0 [(Nd.mk 5 Nd.zero 2 3 [(Nd.classS ([97]))])])]).least, .int .i64 (Nd.mk 5 Nd.zero 4 4 [(Nd.mk 6 Nd.zero 0 0 [(Nd.mk 5 Nd.zero 2 3 [(Nd.classS ([97]))])])]).most, .slice a960 (Nd.mk 5 Nd.zero 4 4 [(Nd.mk 6 Nd.zero 0 0 [(Nd.mk 5 Nd.zero 2 3 [(Nd.classS ([97]))])])]).subs.length cap960]) rfl rfl Ty.zero36 Ty.st36 ⟨⟨rfl, rfl⟩, (by kernel_rfl)⟩ ?_
  have h992 := ((h986.ext hE987).ext hE989)
  refine WL.call rfl rfl rfl Ty.ent13 (check_ok _ _ false false _ (Nd.mk 5 Nd.zero 4 4 [(Nd.mk 6 Nd.zero 0 0 [(Nd.mk 5 Nd.zero 2 3 [(Nd.classS ([97]))])])]) h992) ?_
  rintro _ w994 ⟨rfl, hE993⟩
  have hzhE993 := hE993.size
  refine ⟨_, rfl, ?_⟩
  refine WL.neq (b := false) rfl rfl rfl rfl (by kernel_rfl) ?_
  refine WL.pick_f rfl rfl rfl rfl ?_
  refine WL.done' ?_ (fun _ _ h => h)
  refine WC.cond_f rfl ?_
  refine WC.skip'' ?_ (fun _ _ h => h)
  refine WC.seqk ?_
  refine WC.seqk ?_
  have h995 := (((((((h973.ext hE974).ext hE977).ext hE981).ext hE983).ext hE987).ext hE989).ext hE993)
  have h996 := ((((((((((hB965.row (hB962.row (h55.ext hE956) (by omega)) (by omega)).ext hE968).ext hE971).ext hE974).ext hE977).ext hE981).ext hE983).ext hE987).ext hE989).ext hE993)
  have h997 := ((((((((((((h51.ext hE956).but hB962 (by intro h1; first | omega | ((try dsimp only at h1); (repeat' first | (guard_hyp h1 : _ ∨ _; refine Or.elim h1 (fun h1 => ?_) (fun h1 => ?_)) | (guard_hyp h1 : _ ∧ _; have hx := h1.2; replace h1 := h1.1)) <;> first | contradiction | omega))).but hB965 (by intro h1; first | omega | ((try dsimp only at h1); (repeat' first | (guard_hyp h1 : _ ∨ _; refine Or.elim h1 (fun h1 => ?_) (fun h1 => ?_)) | (guard_hyp h1 : _ ∧ _; have hx := h1.2; replace h1 := h1.1)) <;> first | contradiction | omega))).ext hE968).ext hE971).ext hE974).ext hE977).ext hE981).ext hE983).ext hE987).ext hE989).ext hE993)
  have h998 := ((((((((((hB965.row (hB962.row (h56.ext hE956) (by omega)) (by omega)).ext hE968).ext hE971).ext hE974).ext hE977).ext hE981).ext hE983).ext hE987).ext hE989).ext hE993)
  have h999 := ((((((((((((h52.ext hE956).but hB962 (by intro h1; first | omega | ((try dsimp only at h1); (repeat' first | (guard_hyp h1 : _ ∨ _; refine Or.elim h1 (fun h1 => ?_) (fun h1 => ?_)) | (guard_hyp h1 : _ ∧ _; have hx := h1.2; replace h1 := h1.1)) <;> first | contradiction | omega))).but hB965 (by intro h1; first | omega | ((try dsimp only at h1); (repeat' first | (guard_hyp h1 : _ ∨ _; refine Or.elim h1 (fun h1 => ?_) (fun h1 => ?_)) | (guard_hyp h1 : _ ∧ _; have hx := h1.2; replace h1 := h1.1)) <;> first | contradiction | omega))).ext hE968).ext hE971).ext hE974).ext hE977).ext hE981).ext hE983).ext hE987).ext hE989).ext hE993)
  have h1000 := ((((((((((hB965.row (hB962.row ((hB48.row hR43 (by omega)).ext hE956) (by omega)) (by omega)).ext hE968).ext hE971).ext hE974).ext hE977).ext hE981).ext hE983).ext hE987).ext hE989).ext hE993)
  have h1001 := ((((((((((((h53.ext hE956).but hB962 (by intro h1; first | omega | ((try dsimp only at h1); (repeat' first | (guard_hyp h1 : _ ∨ _; refine Or.elim h1 (fun h1 => ?_) (fun h1 => ?_)) | (guard_hyp h1 : _ ∧ _; have hx := h1.2; replace h1 := h1.1)) <;> first | contradiction | omega))).but hB965 (by intro h1; first | omega | ((try dsimp only at h1); (repeat' first | (guard_hyp h1 : _ ∨ _; refine Or.elim h1 (fun h1 => ?_) (fun h1 => ?_)) | (guard_hyp h1 : _ ∧ _; have hx := h1.2; replace h1 := h1.1)) <;> first | contradiction | omega))).ext hE968).ext hE971).ext hE974).ext hE977).ext hE981).ext hE983).ext hE987).ext hE989).ext hE993)
  have h1002 := ((((((((((hB965.row (hB962.row (hR47.ext hE956) (by omega)) (by omega)).ext hE968).ext hE971).ext hE974).ext hE977).ext hE981).ext hE983).ext hE987).ext hE989).ext hE993)
  have h1003 := ((((((((((((h54.ext hE956).but hB962 (by intro h1; first | omega | ((try dsimp only at h1); (repeat' first | (guard_hyp h1 : _ ∨ _; refine Or.elim h1 (fun h1 => ?_) (fun h1 => ?_)) | (guard_hyp h1 : _ ∧ _; have hx := h1.2; replace h1 := h1.1)) <;> first | contradiction | omega))).but hB965 (by intro h1; first | omega | ((try dsimp only at h1); (repeat' first | (guard_hyp h1 : _ ∨ _; refine Or.elim h1 (fun h1 => ?_) (fun h1 => ?_)) | (guard_hyp h1 : _ ∧ _; have hx := h1.2; replace h1 := h1.1)) <;> first | contradiction | omega))).ext hE968).ext hE971).ext hE974).ext hE977).ext hE981).ext hE983).ext hE987).ext hE989).ext hE993)
  have h1004 := ((((((h976.ext hE977).ext hE981).ext hE983).ext hE987).ext hE989).ext hE993)
  refine WC.weaken (r' := [(0, .bool false), (1, .pointer (some ⟨b11, 0, none⟩)), (2, .pointer (some ⟨b17, 0, none⟩)), (3, .pointer (some ⟨b23, 0, none⟩)), (4, .pointer (some ⟨b29, 0, none⟩)), (68, .bool false)]) (subReg_cons rfl (subReg_cons rfl (subReg_cons rfl (subReg_cons rfl (subReg_cons rfl (subReg_cons rfl (subReg_nil _))))))) ?_
  refine WC.draw 37 [69, 70, 71, 72, 73, 74, 75, 76, 77, 78, 79, 80, 81, 82, 83, 84, 85, 86, 87, 88, 89, 90, 91, 92, 93, 94, 95, 96, 97, 98, 99, 100, 101, 102, 103, 104, 105] [pc (.agg #[.int .u8 (Nd.classS ([97])).kind, .int .u64 (Nd.classS ([97])).set.a, .int .u64 (Nd.classS ([97])).set.b, .int .u64 (Nd.classS ([97])).set.c, .int .u64 (Nd.classS ([97])).set.d, .int .i64 (Nd.classS ([97])).least, .int .i64 (Nd.classS ([97])).most, .slice a1 (Nd.classS ([97])).subs.length cap1]), pc (.agg #[.int .u8 (Nd.classS ([98])).kind, .int .u64 (Nd.classS ([98])).set.a, .int .u64 (Nd.classS ([98])).set.b, .int .u64 (Nd.classS ([98])).set.c, .int .u64 (Nd.classS ([98])).set.d, .int .i64 (Nd.classS ([98])).least, .int .i64 (Nd.classS ([98])).most, .slice a4 (Nd.classS ([98])).subs.length cap4]), pc (.agg #[.int .u8 (Nd.classS ([99])).kind, .int .u64 (Nd.classS ([99])).set.a, .int .u64 (Nd.classS ([99])).set.b, .int .u64 (Nd.classS ([99])).set.c, .int .u64 (Nd.classS ([99])).set.d, .int .i64 (Nd.classS ([99])).least, .int .i64 (Nd.classS ([99])).most, .slice a7 (Nd.classS ([99])).subs.length cap7]), pnodes (fun _ => True) ([(Nd.classS ([98])), (Nd.classS ([99]))]), pnode (fun k => w994.heap.size ≤ k) (Nd.seq ([(Nd.classS ([98])), (Nd.classS ([99]))])), pnodes (fun _ => True) ([(Nd.classS ([97])), (Nd.seq ([(Nd.classS ([98])), (Nd.classS ([99]))]))]), pnode (fun k => w994.heap.size ≤ k) (Nd.seq ([(Nd.classS ([97])), (Nd.seq ([(Nd.classS ([98])), (Nd.classS ([99]))]))])), pc (.agg #[.int .u8 (Nd.classS ([97])).kind, .int .u64 (Nd.classS ([97])).set.a, .int .u64 (Nd.classS ([97])).set.b, .int .u64 (Nd.classS ([97])).set.c, .int .u64 (Nd.classS ([97])).set.d, .int .i64 (Nd.classS ([97])).least, .int .i64 (Nd.classS ([97])).most, .slice a1 (Nd.classS ([97])).subs.length cap1]), pc (.agg #[.int .u8 (Nd.classS ([98])).kind, .int .u64 (Nd.classS ([98])).set.a, .int .u64 (Nd.classS ([98])).set.b, .int .u64 (Nd.classS ([98])).set.c, .int .u64 (Nd.classS ([98])).set.d, .int .i64 (Nd.classS ([98])).least, .int .i64 (Nd.classS ([98])).most, .slice a4 (Nd.classS ([98])).subs.length cap4]), pc (.agg #[.int .u8 (Nd.classS ([99])).kind, .int .u64 (Nd.classS ([99])).set.a, .int .u64 (Nd.classS ([99])).set.b, .int .u64 (Nd.classS ([99])).set.c, .int .u64 (Nd.classS ([99])).set.d, .int .i64 (Nd.classS ([99])).least, .int .i64 (Nd.classS ([99])).most, .slice a7 (Nd.classS ([99])).subs.length cap7]), pnodes (fun _ => True) ([(Nd.classS ([97])), (Nd.classS ([98])), (Nd.classS ([99]))]), pnode (fun k => w994.heap.size ≤ k) (Nd.seq ([(Nd.classS ([97])), (Nd.classS ([98])), (Nd.classS ([99]))])), pc (.bool true), pc (.bool false), pc (.bool false), pc (.agg #[.int .u8 0, .int .u64 0, .int .u64 0, .int .u64 0, .int .u64 0, .int .i64 0, .int .i64 0, .slice none 0 0]), pc (.agg #[.int .u8 (Nd.classS ([97])).kind, .int .u64 (Nd.classS ([97])).set.a, .int .u64 (Nd.classS ([97])).set.b, .int .u64 (Nd.classS ([97])).set.c, .int .u64 (Nd.classS ([97])).set.d, .int .i64 (Nd.classS ([97])).least, .int .i64 (Nd.classS ([97])).most, .slice a1 (Nd.classS ([97])).subs.length cap1]), pnodes (fun _ => True) ([(Nd.mk 0 Nd.zero 0 0 ([])), (Nd.classS ([97]))]), pnode (fun k => w994.heap.size ≤ k) (Nd.or ([(Nd.mk 0 Nd.zero 0 0 ([])), (Nd.classS ([97]))])), pc (.agg #[.int .u8 (Nd.classS ([97])).kind, .int .u64 (Nd.classS ([97])).set.a, .int .u64 (Nd.classS ([97])).set.b, .int .u64 (Nd.classS ([97])).set.c, .int .u64 (Nd.classS ([97])).set.d, .int .i64 (Nd.classS ([97])).least, .int .i64 (Nd.classS ([97])).most, .slice a1 (Nd.classS ([97])).subs.length cap1]), pc (.bool true), pc (.bool false), pc (.bool false), pc (.bool false), pc (.agg #[.int .u8 (Nd.classS ([97])).kind, .int .u64 (Nd.classS ([97])).set.a, .int .u64 (Nd.classS ([97])).set.b, .int .u64 (Nd.classS ([97])).set.c, .int .u64 (Nd.classS ([97])).set.d, .int .i64 (Nd.classS ([97])).least, .int .i64 (Nd.classS ([97])).most, .slice a1 (Nd.classS ([97])).subs.length cap1]), pnode (fun k => w994.heap.size ≤ k) (Nd.times (Nd.classS ([97])) 1 1), pc (.agg #[.int .u8 (Nd.classS ([97])).kind, .int .u64 (Nd.classS ([97])).set.a, .int .u64 (Nd.classS ([97])).set.b, .int .u64 (Nd.classS ([97])).set.c, .int .u64 (Nd.classS ([97])).set.d, .int .i64 (Nd.classS ([97])).least, .int .i64 (Nd.classS ([97])).most, .slice a1 (Nd.classS ([97])).subs.length cap1]), pc (.bool true), pc (.bool false), pc (.bool false), pc (.bool false), pc (.agg #[.int .u8 0, .int .u64 0, .int .u64 0, .int .u64 0, .int .u64 0, .int .i64 0, .int .i64 0, .slice none 0 0]), pnode (fun k => w994.heap.size ≤ k) (Nd.times (Nd.mk 0 Nd.zero 0 0 ([])) 0 (-1)), pc (.agg #[.int .u8 1, .int .u64 0, .int .u64 0, .int .u64 0, .int .u64 0, .int .i64 0, .int .i64 0, .slice none 0 0]), pc (.bool true), pc (.bool false), pc (.bool false)] (by kernel_rfl) (by kernel_rfl) ⟨KW_pc _, KW_pc _, KW_pc _, KW_pnodes _ _, KW_pnode _ _, KW_pnodes _ _, KW_pnode _ _, KW_pc _, KW_pc _, KW_pc _, KW_pnodes _ _, KW_pnode _ _, KW_pc _, KW_pc _, KW_pc _, KW_pc _, KW_pc _, KW_pnodes _ _, KW_pnode _ _, KW_pc _, KW_pc _, KW_pc _, KW_pc _, KW_pc _, KW_pc _, KW_pnode _ _, KW_pc _, KW_pc _, KW_pc _, KW_pc _, KW_pc _, KW_pc _, KW_pnode _ _, KW_pc _, KW_pc _, KW_pc _, KW_pc _, trivial⟩ rfl rfl rfl (StepsOn.cons ?_ (StepsOn.cons ?_ (StepsOn.cons ?_ (StepsOn.cons ?_ (StepsOn.cons ?_ (StepsOn.cons ?_ (StepsOn.cons ?_ (StepsOn.cons ?_ (StepsOn.cons ?_ (StepsOn.cons ?_ (StepsOn.cons ?_ (StepsOn.cons ?_ (StepsOn.cons ?_ (StepsOn.cons ?_ (StepsOn.cons ?_ (StepsOn.cons ?_ (StepsOn.cons ?_ (StepsOn.cons ?_ (StepsOn.cons ?_ (StepsOn.cons ?_ (StepsOn.cons ?_ (StepsOn.cons ?_ (StepsOn.cons ?_ (StepsOn.cons ?_ (StepsOn.cons ?_ (StepsOn.cons ?_ (StepsOn.cons ?_ (StepsOn.cons ?_ (StepsOn.cons ?_ (StepsOn.cons ?_ (StepsOn.cons ?_ (StepsOn.cons ?_ (StepsOn.cons ?_ (StepsOn.cons ?_ (StepsOn.cons ?_ (StepsOn.cons ?_ (StepsOn.cons ?_ (StepsOn.nil _)))))))))))))))))))))))))))))))))))))) ?_
  · intro σ β w1 hE1 hbi hk
    have hz1 := hE1.size
    refine ⟨[], (agree_nil _), ?_⟩
    refine WL.load_box rfl rfl rfl (h996.ext hE1) Ty.agg29 ?_
    refine WL.nil (fun a_ ha => ?_)
    exact ⟨_, β, ha, (Ext.refl _), BExt.refl _ _, hbi.ext (Ext.refl _), rfl⟩
  · intro σ β w1 hE1 hbi hk
    have hz1 := hE1.size
    refine ⟨[], (agree_nil _), ?_⟩
    refine WL.load_box rfl rfl rfl (h998.ext hE1) Ty.agg29 ?_
    refine WL.nil (fun a_ ha => ?_)
    exact ⟨_, β, ha, (Ext.refl _), BExt.refl _ _, hbi.ext (Ext.refl _), rfl⟩
  · intro σ β w1 hE1 hbi hk
    have hz1 := hE1.size
    refine ⟨[], (agree_nil _), ?_⟩
    refine WL.load_box rfl rfl rfl (h1000.ext hE1) Ty.agg29 ?_
    refine WL.nil (fun a_ ha => ?_)
    exact ⟨_, β, ha, (Ext.refl _), BExt.refl _ _, hbi.ext (Ext.refl _), rfl⟩
  · intro σ β w1 hE1 hbi hk
    have hz1 := hE1.size
    obtain ⟨_, hv2405, rfl⟩ := hk 1 (by kernel_rfl) _ _ rfl rfl
    obtain ⟨_, hv2406, rfl⟩ := hk 2 (by kernel_rfl) _ _ rfl rfl
    refine ⟨[(70, .agg #[.int .u8 (Nd.classS ([98])).kind, .int .u64 (Nd.classS ([98])).set.a, .int .u64 (Nd.classS ([98])).set.b, .int .u64 (Nd.classS ([98])).set.c, .int .u64 (Nd.classS ([98])).set.d, .int .i64 (Nd.classS ([98])).least, .int .i64 (Nd.classS ([98])).most, .slice a4 (Nd.classS ([98])).subs.length cap4]), (71, .agg #[.int .u8 (Nd.classS ([99])).kind, .int .u64 (Nd.classS ([99])).set.a, .int .u64 (Nd.classS ([99])).set.b, .int .u64 (Nd.classS ([99])).set.c, .int .u64 (Nd.classS ([99])).set.d, .int .i64 (Nd.classS ([99])).least, .int .i64 (Nd.classS ([99])).most, .slice a7 (Nd.classS ([99])).subs.length cap7])], (agree_cons (look_right rfl hv2405) (agree_cons (look_right rfl hv2406) (agree_nil _))), ?_⟩
    refine WL.buildSlice (vs := [.agg #[.int .u8 (Nd.classS ([98])).kind, .int .u64 (Nd.classS ([98])).set.a, .int .u64 (Nd.classS ([98])).set.b, .int .u64 (Nd.classS ([98])).set.c, .int .u64 (Nd.classS ([98])).set.d, .int .i64 (Nd.classS ([98])).least, .int .i64 (Nd.classS ([98])).most, .slice a4 (Nd.classS ([98])).subs.length cap4], .agg #[.int .u8 (Nd.classS ([99])).kind, .int .u64 (Nd.classS ([99])).set.a, .int .u64 (Nd.classS ([99])).set.b, .int .u64 (Nd.classS ([99])).set.c, .int .u64 (Nd.classS ([99])).set.d, .int .i64 (Nd.classS ([99])).least, .int .i64 (Nd.classS ([99])).most, .slice a7 (Nd.classS ([99])).subs.length cap7]]) (cells := [.int .u8 (Nd.classS ([98])).kind, .int .u64 (Nd.classS ([98])).set.a, .int .u64 (Nd.classS ([98])).set.b, .int .u64 (Nd.classS ([98])).set.c, .int .u64 (Nd.classS ([98])).set.d, .int .i64 (Nd.classS ([98])).least, .int .i64 (Nd.classS ([98])).most, .slice a4 (Nd.classS ([98])).subs.length cap4, .int .u8 (Nd.classS ([99])).kind, .int .u64 (Nd.classS ([99])).set.a, .int .u64 (Nd.classS ([99])).set.b, .int .u64 (Nd.classS ([99])).set.c, .int .u64 (Nd.classS ([99])).set.d, .int .i64 (Nd.classS ([99])).least, .int .i64 (Nd.classS ([99])).most, .slice a7 (Nd.classS ([99])).subs.length cap7]) rfl rfl Ty.slice27 Ty.zero29 rfl rfl rfl rfl rfl rfl (fun b2407 w2412 hb2408 hE2411 hs2409 hR2410 => ?_)
    have hts2407 := (NodesV.lit (n := 2) (ts := [(Nd.classS ([98])), (Nd.classS ([99]))]) hR2410 (RowsL.cons ((h999.ext hE1).ext hE2411) (RowsL.cons ((h1001.ext hE1).ext hE2411) (RowsL.nil' _))) rfl rfl (by decide)).lt
    refine WL.nil (fun a_ ha => ?_)
    exact ⟨_, β, ha, hE2411, BExt.refl _ _, hbi.ext hE2411, ⟨_, _, rfl, (hts2407.dom (by intro k h1; refine ⟨trivial, ?_, h1.2⟩; replace h1 := h1.1; intro x hxm; have hi := hbi.hi x hxm; have lo := hbi.lo x hxm; (try dsimp only at h1); (repeat' first | (guard_hyp h1 : _ ∨ _; refine Or.elim h1 (fun h1 => ?_) (fun h1 => ?_)) | (guard_hyp h1 : _ ∧ _; have hx := h1.2; replace h1 := h1.1)) <;> first | contradiction | omega | exact hx.1 x hxm))⟩⟩
  · intro σ β w1 hE1 hbi hk
    have hz1 := hE1.size
    obtain ⟨_, hv2505, a2505, cap2505, rfl, hts2505⟩ := hk 3 (by kernel_rfl) _ _ rfl rfl
    have hts2505 := hts2505.lt
    have hlen2505 := hts2505.len
    refine ⟨[(72, .slice a2505 (([(Nd.classS ([98])), (Nd.classS ([99]))]).length) cap2505)], (agree_cons (look_right rfl hv2505) (agree_nil _)), ?_⟩
    refine WL.call rfl rfl rfl Ty.ent10 (seq_ok _ _ _ _ ([(Nd.classS ([98])), (Nd.classS ([99]))]) hts2505 (by decide)) ?_
    rintro _ w2508 ⟨l2506, rfl, hr2506, hE2507⟩
    have hzhE2507 := hE2507.size
    refine ⟨_, rfl, ?_⟩
    have hn2506 := hr2506.lt
    obtain ⟨sl2506, rfl, hts2506⟩ := hn2506.opn
    obtain ⟨a2506, cap2506, rfl, hlen2506, -⟩ := hts2506.get
    refine WL.nil (fun a_ ha => ?_)
    exact ⟨_, β, ha, hE2507, BExt.refl _ _, hbi.ext hE2507, ⟨_, rfl, (hr2506.off0 hbi (fun k hk => Nat.le_trans hE1.size hk))⟩⟩
  · intro σ β w1 hE1 hbi hk
    have hz1 := hE1.size
    obtain ⟨_, hv2605, rfl⟩ := hk 0 (by kernel_rfl) _ _ rfl rfl
    obtain ⟨_, hv2606, l2606, rfl, hn2606⟩ := hk 4 (by kernel_rfl) _ _ rfl rfl
    have hn2606 := hn2606.lt
    obtain ⟨sl2606, rfl, hts2606⟩ := hn2606.opn
    obtain ⟨a2606, cap2606, rfl, hlen2606, -⟩ := hts2606.get
    refine ⟨[(69, .agg #[.int .u8 (Nd.classS ([97])).kind, .int .u64 (Nd.classS ([97])).set.a, .int .u64 (Nd.classS ([97])).set.b, .int .u64 (Nd.classS ([97])).set.c, .int .u64 (Nd.classS ([97])).set.d, .int .i64 (Nd.classS ([97])).least, .int .i64 (Nd.classS ([97])).most, .slice a1 (Nd.classS ([97])).subs.length cap1]), (73, .agg #[.int .u8 (Nd.seq ([(Nd.classS ([98])), (Nd.classS ([99]))])).kind, .int .u64 (Nd.seq ([(Nd.classS ([98])), (Nd.classS ([99]))])).set.a, .int .u64 (Nd.seq ([(Nd.classS ([98])), (Nd.classS ([99]))])).set.b, .int .u64 (Nd.seq ([(Nd.classS ([98])), (Nd.classS ([99]))])).set.c, .int .u64 (Nd.seq ([(Nd.classS ([98])), (Nd.classS ([99]))])).set.d, .int .i64 (Nd.seq ([(Nd.classS ([98])), (Nd.classS ([99]))])).least, .int .i64 (Nd.seq ([(Nd.classS ([98])), (Nd.classS ([99]))])).most, .slice a2606 (Nd.seq ([(Nd.classS ([98])), (Nd.classS ([99]))])).subs.length cap2606])], (agree_cons (look_right rfl hv2605) (agree_cons (look_right rfl hv2606) (agree_nil _))), ?_⟩
    refine WL.buildSlice (vs := [.agg #[.int .u8 (Nd.classS ([97])).kind, .int .u64 (Nd.classS ([97])).set.a, .int .u64 (Nd.classS ([97])).set.b, .int .u64 (Nd.classS ([97])).set.c, .int .u64 (Nd.classS ([97])).set.d, .int .i64 (Nd.classS ([97])).least, .int .i64 (Nd.classS ([97])).most, .slice a1 (Nd.classS ([97])).subs.length cap1], .agg #[.int .u8 (Nd.seq ([(Nd.classS ([98])), (Nd.classS ([99]))])).kind, .int .u64 (Nd.seq ([(Nd.classS ([98])), (Nd.classS ([99]))])).set.a, .int .u64 (Nd.seq ([(Nd.classS ([98])), (Nd.classS ([99]))])).set.b, .int .u64 (Nd.seq ([(Nd.classS ([98])), (Nd.classS ([99]))])).set.c, .int .u64 (Nd.seq ([(Nd.classS ([98])), (Nd.classS ([99]))])).set.d, .int .i64 (Nd.seq ([(Nd.classS ([98])), (Nd.classS ([99]))])).least, .int .i64 (Nd.seq ([(Nd.classS ([98])), (Nd.classS ([99]))])).most, .slice a2606 (Nd.seq ([(Nd.classS ([98])), (Nd.classS ([99]))])).subs.length cap2606]]) (cells := [.int .u8 (Nd.classS ([97])).kind, .int .u64 (Nd.classS ([97])).set.a, .int .u64 (Nd.classS ([97])).set.b, .int .u64 (Nd.classS ([97])).set.c, .int .u64 (Nd.classS ([97])).set.d, .int .i64 (Nd.classS ([97])).least, .int .i64 (Nd.classS ([97])).most, .slice a1 (Nd.classS ([97])).subs.length cap1, .int .u8 (Nd.seq ([(Nd.classS ([98])), (Nd.classS ([99]))])).kind, .int .u64 (Nd.seq ([(Nd.classS ([98])), (Nd.classS ([99]))])).set.a, .int .u64 (Nd.seq ([(Nd.classS ([98])), (Nd.classS ([99]))])).set.b, .int .u64 (Nd.seq ([(Nd.classS ([98])), (Nd.classS ([99]))])).set.c, .int .u64 (Nd.seq ([(Nd.classS ([98])), (Nd.classS ([99]))])).set.d, .int .i64 (Nd.seq ([(Nd.classS ([98])), (Nd.classS ([99]))])).least, .int .i64 (Nd.seq ([(Nd.classS ([98])), (Nd.classS ([99]))])).most, .slice a2606 (Nd.seq ([(Nd.classS ([98])), (Nd.classS ([99]))])).subs.length cap2606]) rfl rfl Ty.slice27 Ty.zero29 rfl rfl rfl rfl rfl rfl (fun b2607 w2612 hb2608 hE2611 hs2609 hR2610 => ?_)
    have hts2607 := (NodesV.lit (n := 2) (ts := [(Nd.classS ([97])), (Nd.seq ([(Nd.classS ([98])), (Nd.classS ([99]))]))]) hR2610 (RowsL.cons ((h997.ext hE1).ext hE2611) (RowsL.cons (hn2606.ext hE2611) (RowsL.nil' _))) rfl rfl (by decide)).lt
    refine WL.nil (fun a_ ha => ?_)
    exact ⟨_, β, ha, hE2611, BExt.refl _ _, hbi.ext hE2611, ⟨_, _, rfl, (hts2607.dom (by intro k h1; refine ⟨trivial, ?_, h1.2⟩; replace h1 := h1.1; intro x hxm; have hi := hbi.hi x hxm; have lo := hbi.lo x hxm; (try dsimp only at h1); (repeat' first | (guard_hyp h1 : _ ∨ _; refine Or.elim h1 (fun h1 => ?_) (fun h1 => ?_)) | (guard_hyp h1 : _ ∧ _; have hx := h1.2; replace h1 := h1.1)) <;> first | contradiction | omega | exact hx.1 x hxm))⟩⟩
  · intro σ β w1 hE1 hbi hk
    have hz1 := hE1.size
    obtain ⟨_, hv2705, a2705, cap2705, rfl, hts2705⟩ := hk 5 (by kernel_rfl) _ _ rfl rfl
    have hts2705 := hts2705.lt
    have hlen2705 := hts2705.len
    refine ⟨[(74, .slice a2705 (([(Nd.classS ([97])), (Nd.seq ([(Nd.classS ([98])), (Nd.classS ([99]))]))]).length) cap2705)], (agree_cons (look_right rfl hv2705) (agree_nil _)), ?_⟩
    refine WL.call rfl rfl rfl Ty.ent10 (seq_ok _ _ _ _ ([(Nd.classS ([97])), (Nd.seq ([(Nd.classS ([98])), (Nd.classS ([99]))]))]) hts2705 (by decide)) ?_
    rintro _ w2708 ⟨l2706, rfl, hr2706, hE2707⟩
    have hzhE2707 := hE2707.size
    refine ⟨_, rfl, ?_⟩
    have hn2706 := hr2706.lt
    obtain ⟨sl2706, rfl, hts2706⟩ := hn2706.opn
    obtain ⟨a2706, cap2706, rfl, hlen2706, -⟩ := hts2706.get
    refine WL.nil (fun a_ ha => ?_)
    exact ⟨_, β, ha, hE2707, BExt.refl _ _, hbi.ext hE2707, ⟨_, rfl, (hr2706.off0 hbi (fun k hk => Nat.le_trans hE1.size hk))⟩⟩
  · intro σ β w1 hE1 hbi hk
    have hz1 := hE1.size
    refine ⟨[], (agree_nil _), ?_⟩
    refine WL.load_box rfl rfl rfl (h996.ext hE1) Ty.agg29 ?_
    refine WL.nil (fun a_ ha => ?_)
    exact ⟨_, β, ha, (Ext.refl _), BExt.refl _ _, hbi.ext (Ext.refl _), rfl⟩
  · intro σ β w1 hE1 hbi hk
    have hz1 := hE1.size
    refine ⟨[], (agree_nil _), ?_⟩
    refine WL.load_box rfl rfl rfl (h998.ext hE1) Ty.agg29 ?_
    refine WL.nil (fun a_ ha => ?_)
    exact ⟨_, β, ha, (Ext.refl _), BExt.refl _ _, hbi.ext (Ext.refl _), rfl⟩
  · intro σ β w1 hE1 hbi hk
    have hz1 := hE1.size
    refine ⟨[], (agree_nil _), ?_⟩
    refine WL.load_box rfl rfl rfl (h1000.ext hE1) Ty.agg29 ?_
    refine WL.nil (fun a_ ha => ?_)
    exact ⟨_, β, ha, (Ext.refl _), BExt.refl _ _, hbi.ext (Ext.refl _), rfl⟩
  · intro σ β w1 hE1 hbi hk
    have hz1 := hE1.size
    obtain ⟨_, hv3105, rfl⟩ := hk 7 (by kernel_rfl) _ _ rfl rfl
    obtain ⟨_, hv3106, rfl⟩ := hk 8 (by kernel_rfl) _ _ rfl rfl
    obtain ⟨_, hv3107, rfl⟩ := hk 9 (by kernel_rfl) _ _ rfl rfl
    refine ⟨[(76, .agg #[.int .u8 (Nd.classS ([97])).kind, .int .u64 (Nd.classS ([97])).set.a, .int .u64 (Nd.classS ([97])).set.b, .int .u64 (Nd.classS ([97])).set.c, .int .u64 (Nd.classS ([97])).set.d, .int .i64 (Nd.classS ([97])).least, .int .i64 (Nd.classS ([97])).most, .slice a1 (Nd.classS ([97])).subs.length cap1]), (77, .agg #[.int .u8 (Nd.classS ([98])).kind, .int .u64 (Nd.classS ([98])).set.a, .int .u64 (Nd.classS ([98])).set.b, .int .u64 (Nd.classS ([98])).set.c, .int .u64 (Nd.classS ([98])).set.d, .int .i64 (Nd.classS ([98])).least, .int .i64 (Nd.classS ([98])).most, .slice a4 (Nd.classS ([98])).subs.length cap4]), (78, .agg #[.int .u8 (Nd.classS ([99])).kind, .int .u64 (Nd.classS ([99])).set.a, .int .u64 (Nd.classS ([99])).set.b, .int .u64 (Nd.classS ([99])).set.c, .int .u64 (Nd.classS ([99])).set.d, .int .i64 (Nd.classS ([99])).least, .int .i64 (Nd.classS ([99])).most, .slice a7 (Nd.classS ([99])).subs.length cap7])], (agree_cons (look_right rfl hv3105) (agree_cons (look_right rfl hv3106) (agree_cons (look_right rfl hv3107) (agree_nil _)))), ?_⟩
    refine WL.buildSlice (vs := [.agg #[.int .u8 (Nd.classS ([97])).kind, .int .u64 (Nd.classS ([97])).set.a, .int .u64 (Nd.classS ([97])).set.b, .int .u64 (Nd.classS ([97])).set.c, .int .u64 (Nd.classS ([97])).set.d, .int .i64 (Nd.classS ([97])).least, .int .i64 (Nd.classS ([97])).most, .slice a1 (Nd.classS ([97])).subs.length cap1], .agg #[.int .u8 (Nd.classS ([98])).kind, .int .u64 (Nd.classS ([98])).set.a, .int .u64 (Nd.classS ([98])).set.b, .int .u64 (Nd.classS ([98])).set.c, .int .u64 (Nd.classS ([98])).set.d, .int .i64 (Nd.classS ([98])).least, .int .i64 (Nd.classS ([98])).most, .slice a4 (Nd.classS ([98])).subs.length cap4], .agg #[.int .u8 (Nd.classS ([99])).kind, .int .u64 (Nd.classS ([99])).set.a, .int .u64 (Nd.classS ([99])).set.b, .int .u64 (Nd.classS ([99])).set.c, .int .u64 (Nd.classS ([99])).set.d, .int .i64 (Nd.classS ([99])).least, .int .i64 (Nd.classS ([99])).most, .slice a7 (Nd.classS ([99])).subs.length cap7]]) (cells := [.int .u8 (Nd.classS ([97])).kind, .int .u64 (Nd.classS ([97])).set.a, .int .u64 (Nd.classS ([97])).set.b, .int .u64 (Nd.classS ([97])).set.c, .int .u64 (Nd.classS ([97])).set.d, .int .i64 (Nd.classS ([97])).least, .int .i64 (Nd.classS ([97])).most, .slice a1 (Nd.classS ([97])).subs.length cap1, .int .u8 (Nd.classS ([98])).kind, .int .u64 (Nd.classS ([98])).set.a, .int .u64 (Nd.classS ([98])).set.b, .int .u64 (Nd.classS ([98])).set.c, .int .u64 (Nd.classS ([98])).set.d, .int .i64 (Nd.classS ([98])).least, .int .i64 (Nd.classS ([98])).most, .slice a4 (Nd.classS ([98])).subs.length cap4, .int .u8 (Nd.classS ([99])).kind, .int .u64 (Nd.classS ([99])).set.a, .int .u64 (Nd.classS ([99])).set.b, .int .u64 (Nd.classS ([99])).set.c, .int .u64 (Nd.classS ([99])).set.d, .int .i64 (Nd.classS ([99])).least, .int .i64 (Nd.classS ([99])).most, .slice a7 (Nd.classS ([99])).subs.length cap7]) rfl rfl Ty.slice27 Ty.zero29 rfl rfl rfl rfl rfl rfl (fun b3108 w3113 hb3109 hE3112 hs3110 hR3111 => ?_)
    have hts3108 := (NodesV.lit (n := 3) (ts := [(Nd.classS ([97])), (Nd.classS ([98])), (Nd.classS ([99]))]) hR3111 (RowsL.cons ((h997.ext hE1).ext hE3112) (RowsL.cons ((h999.ext hE1).ext hE3112) (RowsL.cons ((h1001.ext hE1).ext hE3112) (RowsL.nil' _)))) rfl rfl (by decide)).lt
    refine WL.nil (fun a_ ha => ?_)
    exact ⟨_, β, ha, hE3112, BExt.refl _ _, hbi.ext hE3112, ⟨_, _, rfl, (hts3108.dom (by intro k h1; refine ⟨trivial, ?_, h1.2⟩; replace h1 := h1.1; intro x hxm; have hi := hbi.hi x hxm; have lo := hbi.lo x hxm; (try dsimp only at h1); (repeat' first | (guard_hyp h1 : _ ∨ _; refine Or.elim h1 (fun h1 => ?_) (fun h1 => ?_)) | (guard_hyp h1 : _ ∧ _; have hx := h1.2; replace h1 := h1.1)) <;> first | contradiction | omega | exact hx.1 x hxm))⟩⟩
  · intro σ β w1 hE1 hbi hk
    have hz1 := hE1.size
    obtain ⟨_, hv3205, a3205, cap3205, rfl, hts3205⟩ := hk 10 (by kernel_rfl) _ _ rfl rfl
    have hts3205 := hts3205.lt
    have hlen3205 := hts3205.len
    refine ⟨[(79, .slice a3205 (([(Nd.classS ([97])), (Nd.classS ([98])), (Nd.classS ([99]))]).length) cap3205)], (agree_cons (look_right rfl hv3205) (agree_nil _)), ?_⟩
    refine WL.call rfl rfl rfl Ty.ent10 (seq_ok _ _ _ _ ([(Nd.classS ([97])), (Nd.classS ([98])), (Nd.classS ([99]))]) hts3205 (by decide)) ?_
    rintro _ w3208 ⟨l3206, rfl, hr3206, hE3207⟩
    have hzhE3207 := hE3207.size
    refine ⟨_, rfl, ?_⟩
    have hn3206 := hr3206.lt
    obtain ⟨sl3206, rfl, hts3206⟩ := hn3206.opn
    obtain ⟨a3206, cap3206, rfl, hlen3206, -⟩ := hts3206.get
    refine WL.nil (fun a_ ha => ?_)
    exact ⟨_, β, ha, hE3207, BExt.refl _ _, hbi.ext hE3207, ⟨_, rfl, (hr3206.off0 hbi (fun k hk => Nat.le_trans hE1.size hk))⟩⟩
  · intro σ β w1 hE1 hbi hk
    have hz1 := hE1.size
    obtain ⟨_, hv3305, l3305, rfl, hn3305⟩ := hk 6 (by kernel_rfl) _ _ rfl rfl
    have hn3305 := hn3305.lt
    obtain ⟨sl3305, rfl, hts3305⟩ := hn3305.opn
    obtain ⟨a3305, cap3305, rfl, hlen3305, -⟩ := hts3305.get
    obtain ⟨_, hv3306, l3306, rfl, hn3306⟩ := hk 11 (by kernel_rfl) _ _ rfl rfl
    have hn3306 := hn3306.lt
    obtain ⟨sl3306, rfl, hts3306⟩ := hn3306.opn
    obtain ⟨a3306, cap3306, rfl, hlen3306, -⟩ := hts3306.get
    refine ⟨[(75, .agg #[.int .u8 (Nd.seq ([(Nd.classS ([97])), (Nd.seq ([(Nd.classS ([98])), (Nd.classS ([99]))]))])).kind, .int .u64 (Nd.seq ([(Nd.classS ([97])), (Nd.seq ([(Nd.classS ([98])), (Nd.classS ([99]))]))])).set.a, .int .u64 (Nd.seq ([(Nd.classS ([97])), (Nd.seq ([(Nd.classS ([98])), (Nd.classS ([99]))]))])).set.b, .int .u64 (Nd.seq ([(Nd.classS ([97])), (Nd.seq ([(Nd.classS ([98])), (Nd.classS ([99]))]))])).set.c, .int .u64 (Nd.seq ([(Nd.classS ([97])), (Nd.seq ([(Nd.classS ([98])), (Nd.classS ([99]))]))])).set.d, .int .i64 (Nd.seq ([(Nd.classS ([97])), (Nd.seq ([(Nd.classS ([98])), (Nd.classS ([99]))]))])).least, .int .i64 (Nd.seq ([(Nd.classS ([97])), (Nd.seq ([(Nd.classS ([98])), (Nd.classS ([99]))]))])).most, .slice a3305 (Nd.seq ([(Nd.classS ([97])), (Nd.seq ([(Nd.classS ([98])), (Nd.classS ([99]))]))])).subs.length cap3305]), (80, .agg #[.int .u8 (Nd.seq ([(Nd.classS ([97])), (Nd.classS ([98])), (Nd.classS ([99]))])).kind, .int .u64 (Nd.seq ([(Nd.classS ([97])), (Nd.classS ([98])), (Nd.classS ([99]))])).set.a, .int .u64 (Nd.seq ([(Nd.classS ([97])), (Nd.classS ([98])), (Nd.classS ([99]))])).set.b, .int .u64 (Nd.seq ([(Nd.classS ([97])), (Nd.classS ([98])), (Nd.classS ([99]))])).set.c, .int .u64 (Nd.seq ([(Nd.classS ([97])), (Nd.classS ([98])), (Nd.classS ([99]))])).set.d, .int .i64 (Nd.seq ([(Nd.classS ([97])), (Nd.classS ([98])), (Nd.classS ([99]))])).least, .int .i64 (Nd.seq ([(Nd.classS ([97])), (Nd.classS ([98])), (Nd.classS ([99]))])).most, .slice a3306 (Nd.seq ([(Nd.classS ([97])), (Nd.classS ([98])), (Nd.classS ([99]))])).subs.length cap3306])], (agree_cons (look_right rfl hv3305) (agree_cons (look_right rfl hv3306) (agree_nil _))), ?_⟩
    refine WL.call rfl rfl rfl Ty.ent14 (Same_ok _ _ _ _ _ (Nd.seq ([(Nd.classS ([97])), (Nd.seq ([(Nd.classS ([98])), (Nd.classS ([99]))]))])) (Nd.seq ([(Nd.classS ([97])), (Nd.classS ([98])), (Nd.classS ([99]))])) hn3305 hn3306) ?_
    rintro _ w3308 ⟨he, hE3307⟩
    have hq : (Nd.light (Nd.seq ([(Nd.classS ([97])), (Nd.seq ([(Nd.classS ([98])), (Nd.classS ([99]))]))])) && Nd.light (Nd.seq ([(Nd.classS ([97])), (Nd.classS ([98])), (Nd.classS ([99]))])) && Nd.same (Nd.seq ([(Nd.classS ([97])), (Nd.seq ([(Nd.classS ([98])), (Nd.classS ([99]))]))])) (Nd.seq ([(Nd.classS ([97])), (Nd.classS ([98])), (Nd.classS ([99]))]))) = true := (by kernel_rfl)
    rw [hq] at he
    subst he
    clear hq
    have hzhE3307 := hE3307.size
    refine ⟨_, rfl, ?_⟩
    refine WL.nil (fun a_ ha => ?_)
    exact ⟨_, β, ha, hE3307, BExt.refl _ _, hbi.ext hE3307, rfl⟩
  · intro σ β w1 hE1 hbi hk
    have hz1 := hE1.size
    obtain ⟨_, hv3405, rfl⟩ := hk 12 (by kernel_rfl) _ _ rfl rfl
    refine ⟨[(81, .bool true)], (agree_cons (look_right rfl hv3405) (agree_nil _)), ?_⟩
    refine WL.not rfl rfl rfl ?_
    refine WL.nil (fun a_ ha => ?_)
    exact ⟨_, β, ha, (Ext.refl _), BExt.refl _ _, hbi.ext (Ext.refl _), rfl⟩
  · intro σ β w1 hE1 hbi hk
    have hz1 := hE1.size
    obtain ⟨_, hv3505, rfl⟩ := hk 13 (by kernel_rfl) _ _ rfl rfl
    refine ⟨[(82, .bool false)], (agree_cons (look_right rfl hv3505) (agree_nil _)), ?_⟩
    refine WL.move rfl rfl rfl ?_
    refine WL.nil (fun a_ ha => ?_)
    exact ⟨_, β, ha, (Ext.refl _), BExt.refl _ _, hbi.ext (Ext.refl _), rfl⟩
  · intro σ β w1 hE1 hbi hk
    have hz1 := hE1.size
    obtain ⟨_, hv3605, rfl⟩ := hk 14 (by kernel_rfl) _ _ rfl rfl
    refine ⟨[(83, .bool false)], (agree_cons (look_right rfl hv3605) (agree_nil _)), ?_⟩
    refine WL.build0 (l := [.int .u8 0, .int .u64 0, .int .u64 0, .int .u64 0, .int .u64 0, .int .i64 0, .int .i64 0, .slice none 0 0]) rfl rfl Ty.zero29 Ty.agg29 rfl Ty.bz29 ?_
    have hn3606 : NodeL _ w1 [.int .u8 0, .int .u64 0, .int .u64 0, .int .u64 0, .int .u64 0, .int .i64 0, .int .i64 0, .slice none 0 0] (Nd.mk 0 Nd.zero 0 0 ([])) := NodeL.shut (k := 0) (s := Nd.zero) (mn := 0) (mx := 0) (sl := .slice none 0 0) (ts := []) (NodesV.nil (fun _ => False) _ none 0)
    have hn3606 := hn3606.lt
    refine WL.nil (fun a_ ha => ?_)
    exact ⟨_, β, ha, (Ext.refl _), BExt.refl _ _, hbi.ext (Ext.refl _), rfl⟩
  · intro σ β w1 hE1 hbi hk
    have hz1 := hE1.size
    obtain ⟨_, hv3705, rfl⟩ := hk 14 (by kernel_rfl) _ _ rfl rfl
    refine ⟨[(83, .bool false)], (agree_cons (look_right rfl hv3705) (agree_nil _)), ?_⟩
    refine WL.load_box rfl rfl rfl (h996.ext hE1) Ty.agg29 ?_
    refine WL.nil (fun a_ ha => ?_)
    exact ⟨_, β, ha, (Ext.refl _), BExt.refl _ _, hbi.ext (Ext.refl _), rfl⟩
  · intro σ β w1 hE1 hbi hk
    have hz1 := hE1.size
    obtain ⟨_, hv3805, rfl⟩ := hk 14 (by kernel_rfl) _ _ rfl rfl
    obtain ⟨_, hv3806, rfl⟩ := hk 15 (by kernel_rfl) _ _ rfl rfl
    have hn3807 : NodeL _ w1 [.int .u8 0, .int .u64 0, .int .u64 0, .int .u64 0, .int .u64 0, .int .i64 0, .int .i64 0, .slice none 0 0] (Nd.mk 0 Nd.zero 0 0 ([])) := NodeL.shut (k := 0) (s := Nd.zero) (mn := 0) (mx := 0) (sl := .slice none 0 0) (ts := []) (NodesV.nil (fun _ => False) _ none 0)
    have hn3807 := hn3807.lt
    obtain ⟨_, hv3808, rfl⟩ := hk 16 (by kernel_rfl) _ _ rfl rfl
    refine ⟨[(83, .bool false), (84, .agg #[.int .u8 0, .int .u64 0, .int .u64 0, .int .u64 0, .int .u64 0, .int .i64 0, .int .i64 0, .slice none 0 0]), (85, .agg #[.int .u8 (Nd.classS ([97])).kind, .int .u64 (Nd.classS ([97])).set.a, .int .u64 (Nd.classS ([97])).set.b, .int .u64 (Nd.classS ([97])).set.c, .int .u64 (Nd.classS ([97])).set.d, .int .i64 (Nd.classS ([97])).least, .int .i64 (Nd.classS ([97])).most, .slice a1 (Nd.classS ([97])).subs.length cap1])], (agree_cons (look_right rfl hv3805) (agree_cons (look_right rfl hv3806) (agree_cons (look_right rfl hv3808) (agree_nil _)))), ?_⟩
    refine WL.buildSlice (vs := [.agg #[.int .u8 0, .int .u64 0, .int .u64 0, .int .u64 0, .int .u64 0, .int .i64 0, .int .i64 0, .slice none 0 0], .agg #[.int .u8 (Nd.classS ([97])).kind, .int .u64 (Nd.classS ([97])).set.a, .int .u64 (Nd.classS ([97])).set.b, .int .u64 (Nd.classS ([97])).set.c, .int .u64 (Nd.classS ([97])).set.d, .int .i64 (Nd.classS ([97])).least, .int .i64 (Nd.classS ([97])).most, .slice a1 (Nd.classS ([97])).subs.length cap1]]) (cells := [.int .u8 0, .int .u64 0, .int .u64 0, .int .u64 0, .int .u64 0, .int .i64 0, .int .i64 0, .slice none 0 0, .int .u8 (Nd.classS ([97])).kind, .int .u64 (Nd.classS ([97])).set.a, .int .u64 (Nd.classS ([97])).set.b, .int .u64 (Nd.classS ([97])).set.c, .int .u64 (Nd.classS ([97])).set.d, .int .i64 (Nd.classS ([97])).least, .int .i64 (Nd.classS ([97])).most, .slice a1 (Nd.classS ([97])).subs.length cap1]) rfl rfl Ty.slice27 Ty.zero29 rfl rfl rfl rfl rfl rfl (fun b3809 w3814 hb3810 hE3813 hs3811 hR3812 => ?_)
    have hts3809 := (NodesV.lit (n := 2) (ts := [(Nd.mk 0 Nd.zero 0 0 ([])), (Nd.classS ([97]))]) hR3812 (RowsL.cons (hn3807.ext hE3813) (RowsL.cons ((h997.ext hE1).ext hE3813) (RowsL.nil' _))) rfl rfl (by decide)).lt
    refine WL.nil (fun a_ ha => ?_)
    exact ⟨_, β, ha, hE3813, BExt.refl _ _, hbi.ext hE3813, ⟨_, _, rfl, (hts3809.dom (by intro k h1; refine ⟨trivial, ?_, h1.2⟩; replace h1 := h1.1; intro x hxm; have hi := hbi.hi x hxm; have lo := hbi.lo x hxm; (try dsimp only at h1); (repeat' first | (guard_hyp h1 : _ ∨ _; refine Or.elim h1 (fun h1 => ?_) (fun h1 => ?_)) | (guard_hyp h1 : _ ∧ _; have hx := h1.2; replace h1 := h1.1)) <;> first | contradiction | omega | exact hx.1 x hxm))⟩⟩
  · intro σ β w1 hE1 hbi hk
    have hz1 := hE1.size
    obtain ⟨_, hv3905, rfl⟩ := hk 14 (by kernel_rfl) _ _ rfl rfl
    obtain ⟨_, hv3906, a3906, cap3906, rfl, hts3906⟩ := hk 17 (by kernel_rfl) _ _ rfl rfl
    have hts3906 := hts3906.lt
    have hlen3906 := hts3906.len
    refine ⟨[(83, .bool false), (86, .slice a3906 (([(Nd.mk 0 Nd.zero 0 0 ([])), (Nd.classS ([97]))]).length) cap3906)], (agree_cons (look_right rfl hv3905) (agree_cons (look_right rfl hv3906) (agree_nil _))), ?_⟩
    refine WL.call rfl rfl rfl Ty.ent11 (or_ok _ _ _ _ ([(Nd.mk 0 Nd.zero 0 0 ([])), (Nd.classS ([97]))]) hts3906 (by decide)) ?_
    rintro _ w3909 ⟨l3907, rfl, hr3907, hE3908⟩
    have hzhE3908 := hE3908.size
    refine ⟨_, rfl, ?_⟩
    have hn3907 := hr3907.lt
    obtain ⟨sl3907, rfl, hts3907⟩ := hn3907.opn
    obtain ⟨a3907, cap3907, rfl, hlen3907, -⟩ := hts3907.get
    refine WL.nil (fun a_ ha => ?_)
    exact ⟨_, β, ha, hE3908, BExt.refl _ _, hbi.ext hE3908, ⟨_, rfl, (hr3907.off0 hbi (fun k hk => Nat.le_trans hE1.size hk))⟩⟩
  · intro σ β w1 hE1 hbi hk
    have hz1 := hE1.size
    obtain ⟨_, hv4005, rfl⟩ := hk 14 (by kernel_rfl) _ _ rfl rfl
    refine ⟨[(83, .bool false)], (agree_cons (look_right rfl hv4005) (agree_nil _)), ?_⟩
    refine WL.load_box rfl rfl rfl (h996.ext hE1) Ty.agg29 ?_
    refine WL.nil (fun a_ ha => ?_)
    exact ⟨_, β, ha, (Ext.refl _), BExt.refl _ _, hbi.ext (Ext.refl _), rfl⟩
  · intro σ β w1 hE1 hbi hk
    have hz1 := hE1.size
    obtain ⟨_, hv4105, rfl⟩ := hk 14 (by kernel_rfl) _ _ rfl rfl
    obtain ⟨_, hv4106, l4106, rfl, hn4106⟩ := hk 18 (by kernel_rfl) _ _ rfl rfl
    have hn4106 := hn4106.lt
    obtain ⟨sl4106, rfl, hts4106⟩ := hn4106.opn
    obtain ⟨a4106, cap4106, rfl, hlen4106, -⟩ := hts4106.get
    obtain ⟨_, hv4107, rfl⟩ := hk 19 (by kernel_rfl) _ _ rfl rfl
    refine ⟨[(83, .bool false), (87, .agg #[.int .u8 (Nd.or ([(Nd.mk 0 Nd.zero 0 0 ([])), (Nd.classS ([97]))])).kind, .int .u64 (Nd.or ([(Nd.mk 0 Nd.zero 0 0 ([])), (Nd.classS ([97]))])).set.a, .int .u64 (Nd.or ([(Nd.mk 0 Nd.zero 0 0 ([])), (Nd.classS ([97]))])).set.b, .int .u64 (Nd.or ([(Nd.mk 0 Nd.zero 0 0 ([])), (Nd.classS ([97]))])).set.c, .int .u64 (Nd.or ([(Nd.mk 0 Nd.zero 0 0 ([])), (Nd.classS ([97]))])).set.d, .int .i64 (Nd.or ([(Nd.mk 0 Nd.zero 0 0 ([])), (Nd.classS ([97]))])).least, .int .i64 (Nd.or ([(Nd.mk 0 Nd.zero 0 0 ([])), (Nd.classS ([97]))])).most, .slice a4106 (Nd.or ([(Nd.mk 0 Nd.zero 0 0 ([])), (Nd.classS ([97]))])).subs.length cap4106]), (88, .agg #[.int .u8 (Nd.classS ([97])).kind, .int .u64 (Nd.classS ([97])).set.a, .int .u64 (Nd.classS ([97])).set.b, .int .u64 (Nd.classS ([97])).set.c, .int .u64 (Nd.classS ([97])).set.d, .int .i64 (Nd.classS ([97])).least, .int .i64 (Nd.classS ([97])).most, .slice a1 (Nd.classS ([97])).subs.length cap1])], (agree_cons (look_right rfl hv4105) (agree_cons (look_right rfl hv4106) (agree_cons (look_right rfl hv4107) (agree_nil _)))), ?_⟩
    refine WL.call rfl rfl rfl Ty.ent14 (Same_ok _ _ _ _ _ (Nd.or ([(Nd.mk 0 Nd.zero 0 0 ([])), (Nd.classS ([97]))])) (Nd.classS ([97])) hn4106 (h997.ext hE1)) ?_
    rintro _ w4109 ⟨he, hE4108⟩
    have hq : (Nd.light (Nd.or ([(Nd.mk 0 Nd.zero 0 0 ([])), (Nd.classS ([97]))])) && Nd.light (Nd.classS ([97])) && Nd.same (Nd.or ([(Nd.mk 0 Nd.zero 0 0 ([])), (Nd.classS ([97]))])) (Nd.classS ([97]))) = true := (by kernel_rfl)
    rw [hq] at he
    subst he
    clear hq
    have hzhE4108 := hE4108.size
    refine ⟨_, rfl, ?_⟩
    refine WL.nil (fun a_ ha => ?_)
    exact ⟨_, β, ha, hE4108, BExt.refl _ _, hbi.ext hE4108, rfl⟩
  · intro σ β w1 hE1 hbi hk
    have hz1 := hE1.size
    obtain ⟨_, hv4205, rfl⟩ := hk 14 (by kernel_rfl) _ _ rfl rfl
    obtain ⟨_, hv4206, rfl⟩ := hk 20 (by kernel_rfl) _ _ rfl rfl
    refine ⟨[(83, .bool false), (89, .bool true)], (agree_cons (look_right rfl hv4205) (agree_cons (look_right rfl hv4206) (agree_nil _))), ?_⟩
    refine WL.not rfl rfl rfl ?_
    refine WL.nil (fun a_ ha => ?_)
    exact ⟨_, β, ha, (Ext.refl _), BExt.refl _ _, hbi.ext (Ext.refl _), rfl⟩
  · intro σ β w1 hE1 hbi hk
    have hz1 := hE1.size
    obtain ⟨_, hv4305, rfl⟩ := hk 14 (by kernel_rfl) _ _ rfl rfl
    obtain ⟨_, hv4306, rfl⟩ := hk 21 (by kernel_rfl) _ _ rfl rfl
    refine ⟨[(83, .bool false), (90, .bool false)], (agree_cons (look_right rfl hv4305) (agree_cons (look_right rfl hv4306) (agree_nil _))), ?_⟩
    refine WL.pick_f rfl rfl rfl rfl ?_
    refine WL.nil (fun a_ ha => ?_)
    exact ⟨_, β, ha, (Ext.refl _), BExt.refl _ _, hbi.ext (Ext.refl _), rfl⟩
  · intro σ β w1 hE1 hbi hk
    have hz1 := hE1.size
    obtain ⟨_, hv4405, rfl⟩ := hk 22 (by kernel_rfl) _ _ rfl rfl
    refine ⟨[(91, .bool false)], (agree_cons (look_right rfl hv4405) (agree_nil _)), ?_⟩
    refine WL.move rfl rfl rfl ?_
    refine WL.nil (fun a_ ha => ?_)
    exact ⟨_, β, ha, (Ext.refl _), BExt.refl _ _, hbi.ext (Ext.refl _), rfl⟩
  · intro σ β w1 hE1 hbi hk
    have hz1 := hE1.size
    obtain ⟨_, hv4505, rfl⟩ := hk 23 (by kernel_rfl) _ _ rfl rfl
    refine ⟨[(92, .bool false)], (agree_cons (look_right rfl hv4505) (agree_nil _)), ?_⟩
    refine WL.load_box rfl rfl rfl (h996.ext hE1) Ty.agg29 ?_
    refine WL.nil (fun a_ ha => ?_)
    exact ⟨_, β, ha, (Ext.refl _), BExt.refl _ _, hbi.ext (Ext.refl _), rfl⟩
  · intro σ β w1 hE1 hbi hk
    have hz1 := hE1.size
    obtain ⟨_, hv4605, rfl⟩ := hk 23 (by kernel_rfl) _ _ rfl rfl
    obtain ⟨_, hv4606, rfl⟩ := hk 24 (by kernel_rfl) _ _ rfl rfl
    refine ⟨[(92, .bool false), (93, .agg #[.int .u8 (Nd.classS ([97])).kind, .int .u64 (Nd.classS ([97])).set.a, .int .u64 (Nd.classS ([97])).set.b, .int .u64 (Nd.classS ([97])).set.c, .int .u64 (Nd.classS ([97])).set.d, .int .i64 (Nd.classS ([97])).least, .int .i64 (Nd.classS ([97])).most, .slice a1 (Nd.classS ([97])).subs.length cap1])], (agree_cons (look_right rfl hv4605) (agree_cons (look_right rfl hv4606) (agree_nil _))), ?_⟩
    refine WL.call rfl rfl rfl Ty.ent19 (times_ok _ _ _ (Nd.classS ([97])) 1 1 (h997.ext hE1)) ?_
    rintro _ w4609 ⟨l4607, rfl, hr4607, hE4608⟩
    have hzhE4608 := hE4608.size
    refine ⟨_, rfl, ?_⟩
    have hn4607 := hr4607.lt
    obtain ⟨sl4607, rfl, hts4607⟩ := hn4607.opn
    obtain ⟨a4607, cap4607, rfl, hlen4607, -⟩ := hts4607.get
    refine WL.nil (fun a_ ha => ?_)
    exact ⟨_, β, ha, hE4608, BExt.refl _ _, hbi.ext hE4608, ⟨_, rfl, (hr4607.off0 hbi (fun k hk => Nat.le_trans hE1.size hk))⟩⟩
  · intro σ β w1 hE1 hbi hk
    have hz1 := hE1.size
    obtain ⟨_, hv4705, rfl⟩ := hk 23 (by kernel_rfl) _ _ rfl rfl
    refine ⟨[(92, .bool false)], (agree_cons (look_right rfl hv4705) (agree_nil _)), ?_⟩
    refine WL.load_box rfl rfl rfl (h996.ext hE1) Ty.agg29 ?_
    refine WL.nil (fun a_ ha => ?_)
    exact ⟨_, β, ha, (Ext.refl _), BExt.refl _ _, hbi.ext (Ext.refl _), rfl⟩
  · intro σ β w1 hE1 hbi hk
    have hz1 := hE1.size
    obtain ⟨_, hv4805, rfl⟩ := hk 23 (by kernel_rfl) _ _ rfl rfl
    obtain ⟨_, hv4806, l4806, rfl, hn4806⟩ := hk 25 (by kernel_rfl) _ _ rfl rfl
    have hn4806 := hn4806.lt
    obtain ⟨sl4806, rfl, hts4806⟩ := hn4806.opn
    obtain ⟨a4806, cap4806, rfl, hlen4806, -⟩ := hts4806.get
    obtain ⟨_, hv4807, rfl⟩ := hk 26 (by kernel_rfl) _ _ rfl rfl
    refine ⟨[(92, .bool false), (94, .agg #[.int .u8 (Nd.times (Nd.classS ([97])) 1 1).kind, .int .u64 (Nd.times (Nd.classS ([97])) 1 1).set.a, .int .u64 (Nd.times (Nd.classS ([97])) 1 1).set.b, .int .u64 (Nd.times (Nd.classS ([97])) 1 1).set.c, .int .u64 (Nd.times (Nd.classS ([97])) 1 1).set.d, .int .i64 (Nd.times (Nd.classS ([97])) 1 1).least, .int .i64 (Nd.times (Nd.classS ([97])) 1 1).most, .slice a4806 (Nd.times (Nd.classS ([97])) 1 1).subs.length cap4806]), (95, .agg #[.int .u8 (Nd.classS ([97])).kind, .int .u64 (Nd.classS ([97])).set.a, .int .u64 (Nd.classS ([97])).set.b, .int .u64 (Nd.classS ([97])).set.c, .int .u64 (Nd.classS ([97])).set.d, .int .i64 (Nd.classS ([97])).least, .int .i64 (Nd.classS ([97])).most, .slice a1 (Nd.classS ([97])).subs.length cap1])], (agree_cons (look_right rfl hv4805) (agree_cons (look_right rfl hv4806) (agree_cons (look_right rfl hv4807) (agree_nil _)))), ?_⟩
    refine WL.call rfl rfl rfl Ty.ent14 (Same_ok _ _ _ _ _ (Nd.times (Nd.classS ([97])) 1 1) (Nd.classS ([97])) hn4806 (h997.ext hE1)) ?_
    rintro _ w4809 ⟨he, hE4808⟩
    have hq : (Nd.light (Nd.times (Nd.classS ([97])) 1 1) && Nd.light (Nd.classS ([97])) && Nd.same (Nd.times (Nd.classS ([97])) 1 1) (Nd.classS ([97]))) = true := (by kernel_rfl)
    rw [hq] at he
    subst he
    clear hq
    have hzhE4808 := hE4808.size
    refine ⟨_, rfl, ?_⟩
    refine WL.nil (fun a_ ha => ?_)
    exact ⟨_, β, ha, hE4808, BExt.refl _ _, hbi.ext hE4808, rfl⟩
  · intro σ β w1 hE1 hbi hk
    have hz1 := hE1.size
    obtain ⟨_, hv4905, rfl⟩ := hk 23 (by kernel_rfl) _ _ rfl rfl
    obtain ⟨_, hv4906, rfl⟩ := hk 27 (by kernel_rfl) _ _ rfl rfl
    refine ⟨[(92, .bool false), (96, .bool true)], (agree_cons (look_right rfl hv4905) (agree_cons (look_right rfl hv4906) (agree_nil _))), ?_⟩
    refine WL.not rfl rfl rfl ?_
    refine WL.nil (fun a_ ha => ?_)
    exact ⟨_, β, ha, (Ext.refl _), BExt.refl _ _, hbi.ext (Ext.refl _), rfl⟩
  · intro σ β w1 hE1 hbi hk
    have hz1 := hE1.size
    obtain ⟨_, hv5005, rfl⟩ := hk 23 (by kernel_rfl) _ _ rfl rfl
    obtain ⟨_, hv5006, rfl⟩ := hk 28 (by kernel_rfl) _ _ rfl rfl
    refine ⟨[(92, .bool false), (97, .bool false)], (agree_cons (look_right rfl hv5005) (agree_cons (look_right rfl hv5006) (agree_nil _))), ?_⟩
    refine WL.pick_f rfl rfl rfl rfl ?_
    refine WL.nil (fun a_ ha => ?_)
    exact ⟨_, β, ha, (Ext.refl _), BExt.refl _ _, hbi.ext (Ext.refl _), rfl⟩
  · intro σ β w1 hE1 hbi hk
    have hz1 := hE1.size
    obtain ⟨_, hv5105, rfl⟩ := hk 29 (by kernel_rfl) _ _ rfl rfl
    refine ⟨[(98, .bool false)], (agree_cons (look_right rfl hv5105) (agree_nil _)), ?_⟩
    refine WL.move rfl rfl rfl ?_
    refine WL.nil (fun a_ ha => ?_)
    exact ⟨_, β, ha, (Ext.refl _), BExt.refl _ _, hbi.ext (Ext.refl _), rfl⟩
  · intro σ β w1 hE1 hbi hk
    have hz1 := hE1.size
    obtain ⟨_, hv5205, rfl⟩ := hk 30 (by kernel_rfl) _ _ rfl rfl
    refine ⟨[(99, .bool false)], (agree_cons (look_right rfl hv5205) (agree_nil _)), ?_⟩
    refine WL.build0 (l := [.int .u8 0, .int .u64 0, .int .u64 0, .int .u64 0, .int .u64 0, .int .i64 0, .int .i64 0, .slice none 0 0]) rfl rfl Ty.zero29 Ty.agg29 rfl Ty.bz29 ?_
    have hn5206 : NodeL _ w1 [.int .u8 0, .int .u64 0, .int .u64 0, .int .u64 0, .int .u64 0, .int .i64 0, .int .i64 0, .slice none 0 0] (Nd.mk 0 Nd.zero 0 0 ([])) := NodeL.shut (k := 0) (s := Nd.zero) (mn := 0) (mx := 0) (sl := .slice none 0 0) (ts := []) (NodesV.nil (fun _ => False) _ none 0)
    have hn5206 := hn5206.lt
    refine WL.nil (fun a_ ha => ?_)
    exact ⟨_, β, ha, (Ext.refl _), BExt.refl _ _, hbi.ext (Ext.refl _), rfl⟩
  · intro σ β w1 hE1 hbi hk
    have hz1 := hE1.size
    obtain ⟨_, hv5305, rfl⟩ := hk 30 (by kernel_rfl) _ _ rfl rfl
    obtain ⟨_, hv5306, rfl⟩ := hk 31 (by kernel_rfl) _ _ rfl rfl
    have hn5307 : NodeL _ w1 [.int .u8 0, .int .u64 0, .int .u64 0, .int .u64 0, .int .u64 0, .int .i64 0, .int .i64 0, .slice none 0 0] (Nd.mk 0 Nd.zero 0 0 ([])) := NodeL.shut (k := 0) (s := Nd.zero) (mn := 0) (mx := 0) (sl := .slice none 0 0) (ts := []) (NodesV.nil (fun _ => False) _ none 0)
    have hn5307 := hn5307.lt
    refine ⟨[(99, .bool false), (100, .agg #[.int .u8 0, .int .u64 0, .int .u64 0, .int .u64 0, .int .u64 0, .int .i64 0, .int .i64 0, .slice none 0 0])], (agree_cons (look_right rfl hv5305) (agree_cons (look_right rfl hv5306) (agree_nil _))), ?_⟩
    refine WL.call rfl rfl rfl Ty.ent19 (times_ok _ _ _ (Nd.mk 0 Nd.zero 0 0 ([])) 0 (-1) hn5307) ?_
    rintro _ w5310 ⟨l5308, rfl, hr5308, hE5309⟩
    have hzhE5309 := hE5309.size
    refine ⟨_, rfl, ?_⟩
    have hn5308 := hr5308.lt
    obtain ⟨sl5308, rfl, hts5308⟩ := hn5308.opn
    obtain ⟨a5308, cap5308, rfl, hlen5308, -⟩ := hts5308.get
    refine WL.nil (fun a_ ha => ?_)
    exact ⟨_, β, ha, hE5309, BExt.refl _ _, hbi.ext hE5309, ⟨_, rfl, (hr5308.off0 hbi (fun k hk => Nat.le_trans hE1.size hk))⟩⟩
  · intro σ β w1 hE1 hbi hk
    have hz1 := hE1.size
    obtain ⟨_, hv5405, rfl⟩ := hk 30 (by kernel_rfl) _ _ rfl rfl
    refine ⟨[(99, .bool false)], (agree_cons (look_right rfl hv5405) (agree_nil _)), ?_⟩
    refine WL.load_box rfl rfl rfl (h1002.ext hE1) Ty.agg29 ?_
    refine WL.nil (fun a_ ha => ?_)
    exact ⟨_, β, ha, (Ext.refl _), BExt.refl _ _, hbi.ext (Ext.refl _), rfl⟩
  · intro σ β w1 hE1 hbi hk
    have hz1 := hE1.size
    obtain ⟨_, hv5505, rfl⟩ := hk 30 (by kernel_rfl) _ _ rfl rfl
    obtain ⟨_, hv5506, l5506, rfl, hn5506⟩ := hk 32 (by kernel_rfl) _ _ rfl rfl
    have hn5506 := hn5506.lt
    obtain ⟨sl5506, rfl, hts5506⟩ := hn5506.opn
    obtain ⟨a5506, cap5506, rfl, hlen5506, -⟩ := hts5506.get
    obtain ⟨_, hv5507, rfl⟩ := hk 33 (by kernel_rfl) _ _ rfl rfl
    refine ⟨[(99, .bool false), (101, .agg #[.int .u8 (Nd.times (Nd.mk 0 Nd.zero 0 0 ([])) 0 (-1)).kind, .int .u64 (Nd.times (Nd.mk 0 Nd.zero 0 0 ([])) 0 (-1)).set.a, .int .u64 (Nd.times (Nd.mk 0 Nd.zero 0 0 ([])) 0 (-1)).set.b, .int .u64 (Nd.times (Nd.mk 0 Nd.zero 0 0 ([])) 0 (-1)).set.c, .int .u64 (Nd.times (Nd.mk 0 Nd.zero 0 0 ([])) 0 (-1)).set.d, .int .i64 (Nd.times (Nd.mk 0 Nd.zero 0 0 ([])) 0 (-1)).least, .int .i64 (Nd.times (Nd.mk 0 Nd.zero 0 0 ([])) 0 (-1)).most, .slice a5506 (Nd.times (Nd.mk 0 Nd.zero 0 0 ([])) 0 (-1)).subs.length cap5506]), (102, .agg #[.int .u8 1, .int .u64 0, .int .u64 0, .int .u64 0, .int .u64 0, .int .i64 0, .int .i64 0, .slice none 0 0])], (agree_cons (look_right rfl hv5505) (agree_cons (look_right rfl hv5506) (agree_cons (look_right rfl hv5507) (agree_nil _)))), ?_⟩
    refine WL.call rfl rfl rfl Ty.ent14 (Same_ok _ _ _ _ _ (Nd.times (Nd.mk 0 Nd.zero 0 0 ([])) 0 (-1)) (Nd.mk 1 Nd.zero 0 0 ([])) hn5506 (h1003.ext hE1)) ?_
    rintro _ w5509 ⟨he, hE5508⟩
    have hq : (Nd.light (Nd.times (Nd.mk 0 Nd.zero 0 0 ([])) 0 (-1)) && Nd.light (Nd.mk 1 Nd.zero 0 0 ([])) && Nd.same (Nd.times (Nd.mk 0 Nd.zero 0 0 ([])) 0 (-1)) (Nd.mk 1 Nd.zero 0 0 ([]))) = true := (by kernel_rfl)
    rw [hq] at he
    subst he
    clear hq
    have hzhE5508 := hE5508.size
    refine ⟨_, rfl, ?_⟩
    refine WL.nil (fun a_ ha => ?_)
    exact ⟨_, β, ha, hE5508, BExt.refl _ _, hbi.ext hE5508, rfl⟩
  · intro σ β w1 hE1 hbi hk
    have hz1 := hE1.size
    obtain ⟨_, hv5605, rfl⟩ := hk 30 (by kernel_rfl) _ _ rfl rfl
    obtain ⟨_, hv5606, rfl⟩ := hk 34 (by kernel_rfl) _ _ rfl rfl
    refine ⟨[(99, .bool false), (103, .bool true)], (agree_cons (look_right rfl hv5605) (agree_cons (look_right rfl hv5606) (agree_nil _))), ?_⟩
    refine WL.not rfl rfl rfl ?_
    refine WL.nil (fun a_ ha => ?_)
    exact ⟨_, β, ha, (Ext.refl _), BExt.refl _ _, hbi.ext (Ext.refl _), rfl⟩
  · intro σ β w1 hE1 hbi hk
    have hz1 := hE1.size
    obtain ⟨_, hv5705, rfl⟩ := hk 30 (by kernel_rfl) _ _ rfl rfl
    obtain ⟨_, hv5706, rfl⟩ := hk 35 (by kernel_rfl) _ _ rfl rfl
    refine ⟨[(99, .bool false), (104, .bool false)], (agree_cons (look_right rfl hv5705) (agree_cons (look_right rfl hv5706) (agree_nil _))), ?_⟩
    refine WL.pick_f rfl rfl rfl rfl ?_
    refine WL.nil (fun a_ ha => ?_)
    exact ⟨_, β, ha, (Ext.refl _), BExt.refl _ _, hbi.ext (Ext.refl _), rfl⟩
  intro σ β w1904 hE1904 hbi1904 hk
  have hz1904 := hE1904.size
  have hbi := hbi1904
  obtain ⟨_, hv1905, rfl⟩ := hk 36 (by decide) _ _ rfl rfl
  refine WL.know [(105, .bool false)] (agree_cons (look_right rfl hv1905) (agree_nil _)) ?_
  refine WL.done' ?_ (fun _ _ h => h)
  refine WC.cond_f rfl ?_
  refine WC.skip'' ?_ (fun _ _ h => h)
  refine WC.seqk ?_
  refine WC.seqk ?_
  have h1906 := ((h991.ext hE993).ext hE1904)
  have h1907 := ((h992.ext hE993).ext hE1904)
  refine WC.weaken (r' := [(0, .bool false), (1, .pointer (some ⟨b11, 0, none⟩)), (2, .pointer (some ⟨b17, 0, none⟩)), (3, .pointer (some ⟨b23, 0, none⟩)), (68, .bool false), (105, .bool false)]) (subReg_cons rfl (subReg_cons rfl (subReg_cons rfl (subReg_cons rfl (subReg_cons rfl (subReg_cons rfl (subReg_nil _))))))) ?_
  refine WC.draw 21 [106, 107, 108, 109, 110, 111, 112, 113, 114, 115, 116, 117, 118, 119, 120, 121, 122, 123, 124, 125, 126] [pc (.agg #[.int .u8 (Nd.classS ([97])).kind, .int .u64 (Nd.classS ([97])).set.a, .int .u64 (Nd.classS ([97])).set.b, .int .u64 (Nd.classS ([97])).set.c, .int .u64 (Nd.classS ([97])).set.d, .int .i64 (Nd.classS ([97])).least, .int .i64 (Nd.classS ([97])).most, .slice a1 (Nd.classS ([97])).subs.length cap1]), pnodes (fun _ => True) ([(Nd.classS ([97]))]), pnode (fun _ => True) (Nd.mk 3 Nd.zero 0 0 ([(Nd.classS ([97]))])), pc (.agg #[.int .u8 (Nd.classS ([97])).kind, .int .u64 (Nd.classS ([97])).set.a, .int .u64 (Nd.classS ([97])).set.b, .int .u64 (Nd.classS ([97])).set.c, .int .u64 (Nd.classS ([97])).set.d, .int .i64 (Nd.classS ([97])).least, .int .i64 (Nd.classS ([97])).most, .slice a1 (Nd.classS ([97])).subs.length cap1]), pc (.agg #[.int .u8 (Nd.classS ([98])).kind, .int .u64 (Nd.classS ([98])).set.a, .int .u64 (Nd.classS ([98])).set.b, .int .u64 (Nd.classS ([98])).set.c, .int .u64 (Nd.classS ([98])).set.d, .int .i64 (Nd.classS ([98])).least, .int .i64 (Nd.classS ([98])).most, .slice a4 (Nd.classS ([98])).subs.length cap4]), pc (.agg #[.int .u8 (Nd.classS ([99])).kind, .int .u64 (Nd.classS ([99])).set.a, .int .u64 (Nd.classS ([99])).set.b, .int .u64 (Nd.classS ([99])).set.c, .int .u64 (Nd.classS ([99])).set.d, .int .i64 (Nd.classS ([99])).least, .int .i64 (Nd.classS ([99])).most, .slice a7 (Nd.classS ([99])).subs.length cap7]), pnodes (fun _ => True) ([(Nd.classS ([98])), (Nd.classS ([99]))]), pnode (fun _ => True) (Nd.mk 4 Nd.zero 0 0 ([(Nd.classS ([98])), (Nd.classS ([99]))])), pnodes (fun _ => True) ([(Nd.classS ([97])), (Nd.mk 4 Nd.zero 0 0 ([(Nd.classS ([98])), (Nd.classS ([99]))]))]), pnode (fun _ => True) (Nd.mk 4 Nd.zero 0 0 ([(Nd.classS ([97])), (Nd.mk 4 Nd.zero 0 0 ([(Nd.classS ([98])), (Nd.classS ([99]))]))])), pc (.agg #[.int .u8 (Nd.classS ([97])).kind, .int .u64 (Nd.classS ([97])).set.a, .int .u64 (Nd.classS ([97])).set.b, .int .u64 (Nd.classS ([97])).set.c, .int .u64 (Nd.classS ([97])).set.d, .int .i64 (Nd.classS ([97])).least, .int .i64 (Nd.classS ([97])).most, .slice a1 (Nd.classS ([97])).subs.length cap1]), pnode (fun _ => True) (Nd.mk 5 Nd.zero 1 1 [(Nd.classS ([97]))]), pc (.agg #[.int .u8 (Nd.classS ([97])).kind, .int .u64 (Nd.classS ([97])).set.a, .int .u64 (Nd.classS ([97])).set.b, .int .u64 (Nd.classS ([97])).set.c, .int .u64 (Nd.classS ([97])).set.d, .int .i64 (Nd.classS ([97])).least, .int .i64 (Nd.classS ([97])).most, .slice a1 (Nd.classS ([97])).subs.length cap1]), pnode (fun _ => True) (Nd.mk 5 Nd.zero 3 2 [(Nd.classS ([97]))]), pnode (fun k => w1904.heap.size ≤ k) (Nd.classS ([])), pc (.pointer (some ⟨b11, 1, none⟩)), pc (.agg #[.int .u64 (Nd.classS ([97])).set.a, .int .u64 (Nd.classS ([97])).set.b, .int .u64 (Nd.classS ([97])).set.c, .int .u64 (Nd.classS ([97])).set.d]), pc (.agg #[.int .u8 2, .int .u64 (Nd.classS ([97])).set.a, .int .u64 (Nd.classS ([97])).set.b, .int .u64 (Nd.classS ([97])).set.c, .int .u64 (Nd.classS ([97])).set.d, .int .i64 1, .int .i64 0, .slice none 0 0]), pnodes (fun _ => True) ([(Nd.mk 3 Nd.zero 0 0 ([(Nd.classS ([97]))])), (Nd.mk 4 Nd.zero 0 0 ([(Nd.classS ([97])), (Nd.mk 4 Nd.zero 0 0 ([(Nd.classS ([98])), (Nd.classS ([99]))]))])), (Nd.mk 5 Nd.zero 1 1 [(Nd.classS ([97]))]), (Nd.mk 5 Nd.zero 3 2 [(Nd.classS ([97]))]), (Nd.classS ([])), (Nd.mk 2 ((Nd.classS ([97])).set) 1 0 ([]))]), pc (.int .i64 6), pc (.int .i64 0)] (by kernel_rfl) (by kernel_rfl) ⟨KW_pc _, KW_pnodes _ _, KW_pnode _ _, KW_pc _, KW_pc _, KW_pc _, KW_pnodes _ _, KW_pnode _ _, KW_pnodes _ _, KW_pnode _ _, KW_pc _, KW_pnode _ _, KW_pc _, KW_pnode _ _, KW_pnode _ _, KW_pc _, KW_pc _, KW_pc _, KW_pnodes _ _, KW_pc _, KW_pc _, trivial⟩ rfl rfl rfl (StepsOn.cons ?_ (StepsOn.cons ?_ (StepsOn.cons ?_ (StepsOn.cons ?_ (StepsOn.cons ?_ (StepsOn.cons ?_ (StepsOn.cons ?_ (StepsOn.cons ?_ (StepsOn.cons ?_ (StepsOn.cons ?_ (StepsOn.cons ?_ (StepsOn.cons ?_ (StepsOn.cons ?_ (StepsOn.cons ?_ (StepsOn.cons ?_ (StepsOn.cons ?_ (StepsOn.cons ?_ (StepsOn.cons ?_ (StepsOn.cons ?_ (StepsOn.cons ?_ (StepsOn.cons ?_ (StepsOn.nil _)))))))))))))))))))))) ?_
  · intro σ β w1 hE1 hbi hk
    have hz1 := hE1.size
    refine ⟨[], (agree_nil _), ?_⟩
    have h3008 := ((h996.ext hE1904).ext hE1)
    refine WL.load_box rfl rfl rfl h3008 Ty.agg29 ?_
    refine WL.nil (fun a_ ha => ?_)
    exact ⟨_, β, ha, (Ext.refl _), BExt.refl _ _, hbi.ext (Ext.refl _), rfl⟩
  · intro σ β w1 hE1 hbi hk
    have hz1 := hE1.size
    obtain ⟨_, hv3108, rfl⟩ := hk 0 (by kernel_rfl) _ _ rfl rfl
    refine ⟨[(106, .agg #[.int .u8 (Nd.classS ([97])).kind, .int .u64 (Nd.classS ([97])).set.a, .int .u64 (Nd.classS ([97])).set.b, .int .u64 (Nd.classS ([97])).set.c, .int .u64 (Nd.classS ([97])).set.d, .int .i64 (Nd.classS ([97])).least, .int .i64 (Nd.classS ([97])).most, .slice a1 (Nd.classS ([97])).subs.length cap1])], (agree_cons (look_right rfl hv3108) (agree_nil _)), ?_⟩
    have h3109 := ((h997.ext hE1904).ext hE1)
    refine WL.buildSlice (vs := [.agg #[.int .u8 (Nd.classS ([97])).kind, .int .u64 (Nd.classS ([97])).set.a, .int .u64 (Nd.classS ([97])).set.b, .int .u64 (Nd.classS ([97])).set.c, .int .u64 (Nd.classS ([97])).set.d, .int .i64 (Nd.classS ([97])).least, .int .i64 (Nd.classS ([97])).most, .slice a1 (Nd.classS ([97])).subs.length cap1]]) (cells := [.int .u8 (Nd.classS ([97])).kind, .int .u64 (Nd.classS ([97])).set.a, .int .u64 (Nd.classS ([97])).set.b, .int .u64 (Nd.classS ([97])).set.c, .int .u64 (Nd.classS ([97])).set.d, .int .i64 (Nd.classS ([97])).least, .int .i64 (Nd.classS ([97])).most, .slice a1 (Nd.classS ([97])).subs.length cap1]) rfl rfl Ty.slice27 Ty.zero29 rfl rfl rfl rfl rfl rfl (fun b3110 w3115 hb3111 hE3114 hs3112 hR3113 => ?_)
    have hts3110 := (NodesV.lit (n := 1) (ts := [(Nd.classS ([97]))]) hR3113 (RowsL.cons (h3109.ext hE3114) (RowsL.nil' _)) rfl rfl (by decide)).lt
    refine WL.nil (fun a_ ha => ?_)
    exact ⟨_, β, ha, hE3114, BExt.refl _ _, hbi.ext hE3114, ⟨_, _, rfl, (hts3110.dom (by intro k h1; refine ⟨trivial, ?_, h1.2⟩; replace h1 := h1.1; intro x hxm; have hi := hbi.hi x hxm; have lo := hbi.lo x hxm; (try dsimp only at h1); (repeat' first | (guard_hyp h1 : _ ∨ _; refine Or.elim h1 (fun h1 => ?_) (fun h1 => ?_)) | (guard_hyp h1 : _ ∧ _; have hx := h1.2; replace h1 := h1.1)) <;> first | contradiction | omega | exact hx.1 x hxm))⟩⟩
  · intro σ β w1 hE1 hbi hk
    have hz1 := hE1.size
    obtain ⟨_, hv3208, a3208, cap3208, rfl, hts3208⟩ := hk 1 (by kernel_rfl) _ _ rfl rfl
    have hts3208 := hts3208.lt
    have hlen3208 := hts3208.len
    refine ⟨[(107, .slice a3208 (([(Nd.classS ([97]))]).length) cap3208)], (agree_cons (look_right rfl hv3208) (agree_nil _)), ?_⟩
    refine WL.call rfl rfl rfl Ty.ent21 (cat_ok _ _ _ _ ([(Nd.classS ([97]))]) hts3208) ?_
    rintro _ w3211 ⟨l3209, rfl, hr3209, hE3210⟩
    have hzhE3210 := hE3210.size
    refine ⟨_, rfl, ?_⟩
    have hn3209 := hr3209.lt
    obtain ⟨sl3209, rfl, hts3209⟩ := hn3209.opn
    obtain ⟨a3209, cap3209, rfl, hlen3209, -⟩ := hts3209.get
    refine WL.nil (fun a_ ha => ?_)
    exact ⟨_, β, ha, hE3210, BExt.refl _ _, hbi.ext hE3210, ⟨_, rfl, (hr3209.lt.dom (by intro k h1; refine ⟨trivial, ?_, h1.2⟩; replace h1 := h1.1; intro x hxm; have hi := hbi.hi x hxm; have lo := hbi.lo x hxm; (try dsimp only at h1); (repeat' first | (guard_hyp h1 : _ ∨ _; refine Or.elim h1 (fun h1 => ?_) (fun h1 => ?_)) | (guard_hyp h1 : _ ∧ _; have hx := h1.2; replace h1 := h1.1)) <;> first | contradiction | omega | exact hx.1 x hxm))⟩⟩
  · intro σ β w1 hE1 hbi hk
    have hz1 := hE1.size
    refine ⟨[], (agree_nil _), ?_⟩
    have h3308 := ((h996.ext hE1904).ext hE1)
    refine WL.load_box rfl rfl rfl h3308 Ty.agg29 ?_
    refine WL.nil (fun a_ ha => ?_)
    exact ⟨_, β, ha, (Ext.refl _), BExt.refl _ _, hbi.ext (Ext.refl _), rfl⟩
  · intro σ β w1 hE1 hbi hk
    have hz1 := hE1.size
    refine ⟨[], (agree_nil _), ?_⟩
    have h3408 := ((h998.ext hE1904).ext hE1)
    refine WL.load_box rfl rfl rfl h3408 Ty.agg29 ?_
    refine WL.nil (fun a_ ha => ?_)
    exact ⟨_, β, ha, (Ext.refl _), BExt.refl _ _, hbi.ext (Ext.refl _), rfl⟩
  · intro σ β w1 hE1 hbi hk
    have hz1 := hE1.size
    refine ⟨[], (agree_nil _), ?_⟩
    have h3508 := ((h1000.ext hE1904).ext hE1)
    refine WL.load_box rfl rfl rfl h3508 Ty.agg29 ?_
    refine WL.nil (fun a_ ha => ?_)
    exact ⟨_, β, ha, (Ext.refl _), BExt.refl _ _, hbi.ext (Ext.refl _), rfl⟩
  · intro σ β w1 hE1 hbi hk
    have hz1 := hE1.size
    obtain ⟨_, hv3608, rfl⟩ := hk 4 (by kernel_rfl) _ _ rfl rfl
    obtain ⟨_, hv3609, rfl⟩ := hk 5 (by kernel_rfl) _ _ rfl rfl
    refine ⟨[(110, .agg #[.int .u8 (Nd.classS ([98])).kind, .int .u64 (Nd.classS ([98])).set.a, .int .u64 (Nd.classS ([98])).set.b, .int .u64 (Nd.classS ([98])).set.c, .int .u64 (Nd.classS ([98])).set.d, .int .i64 (Nd.classS ([98])).least, .int .i64 (Nd.classS ([98])).most, .slice a4 (Nd.classS ([98])).subs.length cap4]), (111, .agg #[.int .u8 (Nd.classS ([99])).kind, .int .u64 (Nd.classS ([99])).set.a, .int .u64 (Nd.classS ([99])).set.b, .int .u64 (Nd.classS ([99])).set.c, .int .u64 (Nd.classS ([99])).set.d, .int .i64 (Nd.classS ([99])).least, .int .i64 (Nd.classS ([99])).most, .slice a7 (Nd.classS ([99])).subs.length cap7])], (agree_cons (look_right rfl hv3608) (agree_cons (look_right rfl hv3609) (agree_nil _))), ?_⟩
    have h3610 := ((h999.ext hE1904).ext hE1)
    have h3611 := ((h1001.ext hE1904).ext hE1)
    refine WL.buildSlice (vs := [.agg #[.int .u8 (Nd.classS ([98])).kind, .int .u64 (Nd.classS ([98])).set.a, .int .u64 (Nd.classS ([98])).set.b, .int .u64 (Nd.classS ([98])).set.c, .int .u64 (Nd.classS ([98])).set.d, .int .i64 (Nd.classS ([98])).least, .int .i64 (Nd.classS ([98])).most, .slice a4 (Nd.classS ([98])).subs.length cap4], .agg #[.int .u8 (Nd.classS ([99])).kind, .int .u64 (Nd.classS ([99])).set.a, .int .u64 (Nd.classS ([99])).set.b, .int .u64 (Nd.classS ([99])).set.c, .int .u64 (Nd.classS ([99])).set.d, .int .i64 (Nd.classS ([99])).least, .int .i64 (Nd.classS ([99])).most, .slice a7 (Nd.classS ([99])).subs.length cap7]]) (cells := [.int .u8 (Nd.classS ([98])).kind, .int .u64 (Nd.classS ([98])).set.a, .int .u64 (Nd.classS ([98])).set.b, .int .u64 (Nd.classS ([98])).set.c, .int .u64 (Nd.classS ([98])).set.d, .int .i64 (Nd.classS ([98])).least, .int .i64 (Nd.classS ([98])).most, .slice a4 (Nd.classS ([98])).subs.length cap4, .int .u8 (Nd.classS ([99])).kind, .int .u64 (Nd.classS ([99])).set.a, .int .u64 (Nd.classS ([99])).set.b, .int .u64 (Nd.classS ([99])).set.c, .int .u64 (Nd.classS ([99])).set.d, .int .i64 (Nd.classS ([99])).least, .int .i64 (Nd.classS ([99])).most, .slice a7 (Nd.classS ([99])).subs.length cap7]) rfl rfl Ty.slice27 Ty.zero29 rfl rfl rfl rfl rfl rfl (fun b3612 w3617 hb3613 hE3616 hs3614 hR3615 => ?_)
    have hts3612 := (NodesV.lit (n := 2) (ts := [(Nd.classS ([98])), (Nd.classS ([99]))]) hR3615 (RowsL.cons (h3610.ext hE3616) (RowsL.cons (h3611.ext hE3616) (RowsL.nil' _))) rfl rfl (by decide)).lt
    refine WL.nil (fun a_ ha => ?_)
    exact ⟨_, β, ha, hE3616, BExt.refl _ _, hbi.ext hE3616, ⟨_, _, rfl, (hts3612.dom (by intro k h1; refine ⟨trivial, ?_, h1.2⟩; replace h1 := h1.1; intro x hxm; have hi := hbi.hi x hxm; have lo := hbi.lo x hxm; (try dsimp only at h1); (repeat' first | (guard_hyp h1 : _ ∨ _; refine Or.elim h1 (fun h1 => ?_) (fun h1 => ?_)) | (guard_hyp h1 : _ ∧ _; have hx := h1.2; replace h1 := h1.1)) <;> first | contradiction | omega | exact hx.1 x hxm))⟩⟩
  · intro σ β w1 hE1 hbi hk
    have hz1 := hE1.size
    obtain ⟨_, hv3708, a3708, cap3708, rfl, hts3708⟩ := hk 6 (by kernel_rfl) _ _ rfl rfl
    have hts3708 := hts3708.lt
    have hlen3708 := hts3708.len
    refine ⟨[(112, .slice a3708 (([(Nd.classS ([98])), (Nd.classS ([99]))]).length) cap3708)], (agree_cons (look_right rfl hv3708) (agree_nil _)), ?_⟩
    refine WL.call rfl rfl rfl Ty.ent22 (alt_ok _ _ _ _ ([(Nd.classS ([98])), (Nd.classS ([99]))]) hts3708) ?_
    rintro _ w3711 ⟨l3709, rfl, hr3709, hE3710⟩
    have hzhE3710 := hE3710.size
    refine ⟨_, rfl, ?_⟩
    have hn3709 := hr3709.lt
    obtain ⟨sl3709, rfl, hts3709⟩ := hn3709.opn
    obtain ⟨a3709, cap3709, rfl, hlen3709, -⟩ := hts3709.get
    refine WL.nil (fun a_ ha => ?_)
    exact ⟨_, β, ha, hE3710, BExt.refl _ _, hbi.ext hE3710, ⟨_, rfl, (hr3709.lt.dom (by intro k h1; refine ⟨trivial, ?_, h1.2⟩; replace h1 := h1.1; intro x hxm; have hi := hbi.hi x hxm; have lo := hbi.lo x hxm; (try dsimp only at h1); (repeat' first | (guard_hyp h1 : _ ∨ _; refine Or.elim h1 (fun h1 => ?_) (fun h1 => ?_)) | (guard_hyp h1 : _ ∧ _; have hx := h1.2; replace h1 := h1.1)) <;> first | contradiction | omega | exact hx.1 x hxm))⟩⟩
  · intro σ β w1 hE1 hbi hk
    have hz1 := hE1.size
    obtain ⟨_, hv3808, rfl⟩ := hk 3 (by kernel_rfl) _ _ rfl rfl
    obtain ⟨_, hv3809, l3809, rfl, hn3809⟩ := hk 7 (by kernel_rfl) _ _ rfl rfl
    have hn3809 := hn3809.lt
    obtain ⟨sl3809, rfl, hts3809⟩ := hn3809.opn
    obtain ⟨a3809, cap3809, rfl, hlen3809, -⟩ := hts3809.get
    refine ⟨[(109, .agg #[.int .u8 (Nd.classS ([97])).kind, .int .u64 (Nd.classS ([97])).set.a, .int .u64 (Nd.classS ([97])).set.b, .int .u64 (Nd.classS ([97])).set.c, .int .u64 (Nd.classS ([97])).set.d, .int .i64 (Nd.classS ([97])).least, .int .i64 (Nd.classS ([97])).most, .slice a1 (Nd.classS ([97])).subs.length cap1]), (113, .agg #[.int .u8 (Nd.mk 4 Nd.zero 0 0 ([(Nd.classS ([98])), (Nd.classS ([99]))])).kind, .int .u64 (Nd.mk 4 Nd.zero 0 0 ([(Nd.classS ([98])), (Nd.classS ([99]))])).set.a, .int .u64 (Nd.mk 4 Nd.zero 0 0 ([(Nd.classS ([98])), (Nd.classS ([99]))])).set.b, .int .u64 (Nd.mk 4 Nd.zero 0 0 ([(Nd.classS ([98])), (Nd.classS ([99]))])).set.c, .int .u64 (Nd.mk 4 Nd.zero 0 0 ([(Nd.classS ([98])), (Nd.classS ([99]))])).set.d, .int .i64 (Nd.mk 4 Nd.zero 0 0 ([(Nd.classS ([98])), (Nd.classS ([99]))])).least, .int .i64 (Nd.mk 4 Nd.zero 0 0 ([(Nd.classS ([98])), (Nd.classS ([99]))])).most, .slice a3809 (Nd.mk 4 Nd.zero 0 0 ([(Nd.classS ([98])), (Nd.classS ([99]))])).subs.length cap3809])], (agree_cons (look_right rfl hv3808) (agree_cons (look_right rfl hv3809) (agree_nil _))), ?_⟩
    have h3810 := ((h997.ext hE1904).ext hE1)
    refine WL.buildSlice (vs := [.agg #[.int .u8 (Nd.classS ([97])).kind, .int .u64 (Nd.classS ([97])).set.a, .int .u64 (Nd.classS ([97])).set.b, .int .u64 (Nd.classS ([97])).set.c, .int .u64 (Nd.classS ([97])).set.d, .int .i64 (Nd.classS ([97])).least, .int .i64 (Nd.classS ([97])).most, .slice a1 (Nd.classS ([97])).subs.length cap1], .agg #[.int .u8 (Nd.mk 4 Nd.zero 0 0 ([(Nd.classS ([98])), (Nd.classS ([99]))])).kind, .int .u64 (Nd.mk 4 Nd.zero 0 0 ([(Nd.classS ([98])), (Nd.classS ([99]))])).set.a, .int .u64 (Nd.mk 4 Nd.zero 0 0 ([(Nd.classS ([98])), (Nd.classS ([99]))])).set.b, .int .u64 (Nd.mk 4 Nd.zero 0 0 ([(Nd.classS ([98])), (Nd.classS ([99]))])).set.c, .int .u64 (Nd.mk 4 Nd.zero 0 0 ([(Nd.classS ([98])), (Nd.classS ([99]))])).set.d, .int .i64 (Nd.mk 4 Nd.zero 0 0 ([(Nd.classS ([98])), (Nd.classS ([99]))])).least, .int .i64 (Nd.mk 4 Nd.zero 0 0 ([(Nd.classS ([98])), (Nd.classS ([99]))])).most, .slice a3809 (Nd.mk 4 Nd.zero 0 0 ([(Nd.classS ([98])), (Nd.classS ([99]))])).subs.length cap3809]]) (cells := [.int .u8 (Nd.classS ([97])).kind, .int .u64 (Nd.classS ([97])).set.a, .int .u64 (Nd.classS ([97])).set.b, .int .u64 (Nd.classS ([97])).set.c, .int .u64 (Nd.classS ([97])).set.d, .int .i64 (Nd.classS ([97])).least, .int .i64 (Nd.classS ([97])).most, .slice a1 (Nd.classS ([97])).subs.length cap1, .int .u8 (Nd.mk 4 Nd.zero 0 0 ([(Nd.classS ([98])), (Nd.classS ([99]))])).kind, .int .u64 (Nd.mk 4 Nd.zero 0 0 ([(Nd.classS ([98])), (Nd.classS ([99]))])).set.a, .int .u64 (Nd.mk 4 Nd.zero 0 0 ([(Nd.classS ([98])), (Nd.classS ([99]))])).set.b, .int .u64 (Nd.mk 4 Nd.zero 0 0 ([(Nd.classS ([98])), (Nd.classS ([99]))])).set.c, .int .u64 (Nd.mk 4 Nd.zero 0 0 ([(Nd.classS ([98])), (Nd.classS ([99]))])).set.d, .int .i64 (Nd.mk 4 Nd.zero 0 0 ([(Nd.classS ([98])), (Nd.classS ([99]))])).least, .int .i64 (Nd.mk 4 Nd.zero 0 0 ([(Nd.classS ([98])), (Nd.classS ([99]))])).most, .slice a3809 (Nd.mk 4 Nd.zero 0 0 ([(Nd.classS ([98])), (Nd.classS ([99]))])).subs.length cap3809]) rfl rfl Ty.slice27 Ty.zero29 rfl rfl rfl rfl rfl rfl (fun b3811 w3816 hb3812 hE3815 hs3813 hR3814 => ?_)
    have hts3811 := (NodesV.lit (n := 2) (ts := [(Nd.classS ([97])), (Nd.mk 4 Nd.zero 0 0 ([(Nd.classS ([98])), (Nd.classS ([99]))]))]) hR3814 (RowsL.cons (h3810.ext hE3815) (RowsL.cons (hn3809.ext hE3815) (RowsL.nil' _))) rfl rfl (by decide)).lt
    refine WL.nil (fun a_ ha => ?_)
    exact ⟨_, β, ha, hE3815, BExt.refl _ _, hbi.ext hE3815, ⟨_, _, rfl, (hts3811.dom (by intro k h1; refine ⟨trivial, ?_, h1.2⟩; replace h1 := h1.1; intro x hxm; have hi := hbi.hi x hxm; have lo := hbi.lo x hxm; (try dsimp only at h1); (repeat' first | (guard_hyp h1 : _ ∨ _; refine Or.elim h1 (fun h1 => ?_) (fun h1 => ?_)) | (guard_hyp h1 : _ ∧ _; have hx := h1.2; replace h1 := h1.1)) <;> first | contradiction | omega | exact hx.1 x hxm))⟩⟩
  · intro σ β w1 hE1 hbi hk
    have hz1 := hE1.size
    obtain ⟨_, hv3908, a3908, cap3908, rfl, hts3908⟩ := hk 8 (by kernel_rfl) _ _ rfl rfl
    have hts3908 := hts3908.lt
    have hlen3908 := hts3908.len
    refine ⟨[(114, .slice a3908 (([(Nd.classS ([97])), (Nd.mk 4 Nd.zero 0 0 ([(Nd.classS ([98])), (Nd.classS ([99]))]))]).length) cap3908)], (agree_cons (look_right rfl hv3908) (agree_nil _)), ?_⟩
    refine WL.call rfl rfl rfl Ty.ent22 (alt_ok _ _ _ _ ([(Nd.classS ([97])), (Nd.mk 4 Nd.zero 0 0 ([(Nd.classS ([98])), (Nd.classS ([99]))]))]) hts3908) ?_
    rintro _ w3911 ⟨l3909, rfl, hr3909, hE3910⟩
    have hzhE3910 := hE3910.size
    refine ⟨_, rfl, ?_⟩
    have hn3909 := hr3909.lt
    obtain ⟨sl3909, rfl, hts3909⟩ := hn3909.opn
    obtain ⟨a3909, cap3909, rfl, hlen3909, -⟩ := hts3909.get
    refine WL.nil (fun a_ ha => ?_)
    exact ⟨_, β, ha, hE3910, BExt.refl _ _, hbi.ext hE3910, ⟨_, rfl, (hr3909.lt.dom (by intro k h1; refine ⟨trivial, ?_, h1.2⟩; replace h1 := h1.1; intro x hxm; have hi := hbi.hi x hxm; have lo := hbi.lo x hxm; (try dsimp only at h1); (repeat' first | (guard_hyp h1 : _ ∨ _; refine Or.elim h1 (fun h1 => ?_) (fun h1 => ?_)) | (guard_hyp h1 : _ ∧ _; have hx := h1.2; replace h1 := h1.1)) <;> first | contradiction | omega | exact hx.1 x hxm))⟩⟩
  · intro σ β w1 hE1 hbi hk
    have hz1 := hE1.size
    refine ⟨[], (agree_nil _), ?_⟩
    have h4008 := ((h996.ext hE1904).ext hE1)
    refine WL.load_box rfl rfl rfl h4008 Ty.agg29 ?_
    refine WL.nil (fun a_ ha => ?_)
    exact ⟨_, β, ha, (Ext.refl _), BExt.refl _ _, hbi.ext (Ext.refl _), rfl⟩
  · intro σ β w1 hE1 hbi hk
    have hz1 := hE1.size
    obtain ⟨_, hv4108, rfl⟩ := hk 10 (by kernel_rfl) _ _ rfl rfl
    refine ⟨[(116, .agg #[.int .u8 (Nd.classS ([97])).kind, .int .u64 (Nd.classS ([97])).set.a, .int .u64 (Nd.classS ([97])).set.b, .int .u64 (Nd.classS ([97])).set.c, .int .u64 (Nd.classS ([97])).set.d, .int .i64 (Nd.classS ([97])).least, .int .i64 (Nd.classS ([97])).most, .slice a1 (Nd.classS ([97])).subs.length cap1])], (agree_cons (look_right rfl hv4108) (agree_nil _)), ?_⟩
    have h4109 := ((h997.ext hE1904).ext hE1)
    refine WL.call rfl rfl rfl Ty.ent23 (rep_ok _ _ _ (Nd.classS ([97])) 1 1 h4109) ?_
    rintro _ w4112 ⟨l4110, rfl, hr4110, hE4111⟩
    have hzhE4111 := hE4111.size
    refine ⟨_, rfl, ?_⟩
    have hn4110 := hr4110.lt
    obtain ⟨sl4110, rfl, hts4110⟩ := hn4110.opn
    obtain ⟨a4110, cap4110, rfl, hlen4110, -⟩ := hts4110.get
    refine WL.nil (fun a_ ha => ?_)
    exact ⟨_, β, ha, hE4111, BExt.refl _ _, hbi.ext hE4111, ⟨_, rfl, (hr4110.lt.dom (by intro k h1; refine ⟨trivial, ?_, h1.2⟩; replace h1 := h1.1; intro x hxm; have hi := hbi.hi x hxm; have lo := hbi.lo x hxm; (try dsimp only at h1); (repeat' first | (guard_hyp h1 : _ ∨ _; refine Or.elim h1 (fun h1 => ?_) (fun h1 => ?_)) | (guard_hyp h1 : _ ∧ _; have hx := h1.2; replace h1 := h1.1)) <;> first | contradiction | omega | exact hx.1 x hxm))⟩⟩
  · intro σ β w1 hE1 hbi hk
    have hz1 := hE1.size
    refine ⟨[], (agree_nil _), ?_⟩
    have h4208 := ((h996.ext hE1904).ext hE1)
    refine WL.load_box rfl rfl rfl h4208 Ty.agg29 ?_
    refine WL.nil (fun a_ ha => ?_)
    exact ⟨_, β, ha, (Ext.refl _), BExt.refl _ _, hbi.ext (Ext.refl _), rfl⟩
  · intro σ β w1 hE1 hbi hk
    have hz1 := hE1.size
    obtain ⟨_, hv4308, rfl⟩ := hk 12 (by kernel_rfl) _ _ rfl rfl
    refine ⟨[(118, .agg #[.int .u8 (Nd.classS ([97])).kind, .int .u64 (Nd.classS ([97])).set.a, .int .u64 (Nd.classS ([97])).set.b, .int .u64 (Nd.classS ([97])).set.c, .int .u64 (Nd.classS ([97])).set.d, .int .i64 (Nd.classS ([97])).least, .int .i64 (Nd.classS ([97])).most, .slice a1 (Nd.classS ([97])).subs.length cap1])], (agree_cons (look_right rfl hv4308) (agree_nil _)), ?_⟩
    have h4309 := ((h997.ext hE1904).ext hE1)
    refine WL.call rfl rfl rfl Ty.ent23 (rep_ok _ _ _ (Nd.classS ([97])) 3 2 h4309) ?_
    rintro _ w4312 ⟨l4310, rfl, hr4310, hE4311⟩
    have hzhE4311 := hE4311.size
    refine ⟨_, rfl, ?_⟩
    have hn4310 := hr4310.lt
    obtain ⟨sl4310, rfl, hts4310⟩ := hn4310.opn
    obtain ⟨a4310, cap4310, rfl, hlen4310, -⟩ := hts4310.get
    refine WL.nil (fun a_ ha => ?_)
    exact ⟨_, β, ha, hE4311, BExt.refl _ _, hbi.ext hE4311, ⟨_, rfl, (hr4310.lt.dom (by intro k h1; refine ⟨trivial, ?_, h1.2⟩; replace h1 := h1.1; intro x hxm; have hi := hbi.hi x hxm; have lo := hbi.lo x hxm; (try dsimp only at h1); (repeat' first | (guard_hyp h1 : _ ∨ _; refine Or.elim h1 (fun h1 => ?_) (fun h1 => ?_)) | (guard_hyp h1 : _ ∧ _; have hx := h1.2; replace h1 := h1.1)) <;> first | contradiction | omega | exact hx.1 x hxm))⟩⟩
  · intro σ β w1 hE1 hbi hk
    have hz1 := hE1.size
    refine ⟨[], (agree_nil _), ?_⟩
    refine WL.call rfl rfl rfl Ty.ent20 (class_ok _ ([]) (by first | decide | exact Nd.lettersS_len _)) ?_
    rintro _ w4410 ⟨l4408, rfl, hr4408, hE4409⟩
    have hzhE4409 := hE4409.size
    refine ⟨_, rfl, ?_⟩
    have hn4408 := hr4408.lt
    obtain ⟨sl4408, rfl, hts4408⟩ := hn4408.opn
    obtain ⟨a4408, cap4408, rfl, hlen4408, -⟩ := hts4408.get
    refine WL.nil (fun a_ ha => ?_)
    exact ⟨_, β, ha, hE4409, BExt.refl _ _, hbi.ext hE4409, ⟨_, rfl, (hr4408.off0 hbi (fun k hk => Nat.le_trans hE1.size hk))⟩⟩
  · intro σ β w1 hE1 hbi hk
    have hz1 := hE1.size
    refine ⟨[], (agree_nil _), ?_⟩
    refine WL.fieldAddr rfl rfl Ty.fld29_1 rfl ?_
    refine WL.nil (fun a_ ha => ?_)
    exact ⟨_, β, ha, (Ext.refl _), BExt.refl _ _, hbi.ext (Ext.refl _), rfl⟩
  · intro σ β w1 hE1 hbi hk
    have hz1 := hE1.size
    obtain ⟨_, hv4608, rfl⟩ := hk 15 (by kernel_rfl) _ _ rfl rfl
    refine ⟨[(121, .pointer (some ⟨b11, 1, none⟩))], (agree_cons (look_right rfl hv4608) (agree_nil _)), ?_⟩
    have h4609 := ((h996.ext hE1904).ext hE1)
    refine WL.load_part 4 rfl rfl rfl h4609 rfl Ty.agg26 ?_
    refine WL.nil (fun a_ ha => ?_)
    exact ⟨_, β, ha, (Ext.refl _), BExt.refl _ _, hbi.ext (Ext.refl _), rfl⟩
  · intro σ β w1 hE1 hbi hk
    have hz1 := hE1.size
    obtain ⟨_, hv4708, rfl⟩ := hk 16 (by kernel_rfl) _ _ rfl rfl
    refine ⟨[(122, .agg #[.int .u64 (Nd.classS ([97])).set.a, .int .u64 (Nd.classS ([97])).set.b, .int .u64 (Nd.classS ([97])).set.c, .int .u64 (Nd.classS ([97])).set.d])], (agree_cons (look_right rfl hv4708) (agree_nil _)), ?_⟩
    refine WL.build (l := [.int .u8 2, .int .u64 (Nd.classS ([97])).set.a, .int .u64 (Nd.classS ([97])).set.b, .int .u64 (Nd.classS ([97])).set.c, .int .u64 (Nd.classS ([97])).set.d, .int .i64 1, .int .i64 0, .slice none 0 0]) rfl rfl Ty.zero29 Ty.st29 ⟨⟨rfl, rfl⟩, (by kernel_rfl)⟩ ?_
    have hn4709 : NodeL _ w1 [.int .u8 2, .int .u64 (Nd.classS ([97])).set.a, .int .u64 (Nd.classS ([97])).set.b, .int .u64 (Nd.classS ([97])).set.c, .int .u64 (Nd.classS ([97])).set.d, .int .i64 1, .int .i64 0, .slice none 0 0] (Nd.mk 2 ((Nd.classS ([97])).set) 1 0 ([])) := NodeL.shut (k := 2) (s := (Nd.classS ([97])).set) (mn := 1) (mx := 0) (sl := .slice none 0 0) (ts := []) (NodesV.nil (fun _ => False) _ none 0)
    have hn4709 := hn4709.lt
    refine WL.nil (fun a_ ha => ?_)
    exact ⟨_, β, ha, (Ext.refl _), BExt.refl _ _, hbi.ext (Ext.refl _), rfl⟩
  · intro σ β w1 hE1 hbi hk
    have hz1 := hE1.size
    obtain ⟨_, hv4808, l4808, rfl, hn4808⟩ := hk 2 (by kernel_rfl) _ _ rfl rfl
    have hn4808 := hn4808.lt
    obtain ⟨sl4808, rfl, hts4808⟩ := hn4808.opn
    obtain ⟨a4808, cap4808, rfl, hlen4808, -⟩ := hts4808.get
    obtain ⟨_, hv4809, l4809, rfl, hn4809⟩ := hk 9 (by kernel_rfl) _ _ rfl rfl
    have hn4809 := hn4809.lt
    obtain ⟨sl4809, rfl, hts4809⟩ := hn4809.opn
    obtain ⟨a4809, cap4809, rfl, hlen4809, -⟩ := hts4809.get
    obtain ⟨_, hv4810, l4810, rfl, hn4810⟩ := hk 11 (by kernel_rfl) _ _ rfl rfl
    have hn4810 := hn4810.lt
    obtain ⟨sl4810, rfl, hts4810⟩ := hn4810.opn
    obtain ⟨a4810, cap4810, rfl, hlen4810, -⟩ := hts4810.get
    obtain ⟨_, hv4811, l4811, rfl, hn4811⟩ := hk 13 (by kernel_rfl) _ _ rfl rfl
    have hn4811 := hn4811.lt
    obtain ⟨sl4811, rfl, hts4811⟩ := hn4811.opn
    obtain ⟨a4811, cap4811, rfl, hlen4811, -⟩ := hts4811.get
    obtain ⟨_, hv4812, l4812, rfl, hn4812⟩ := hk 14 (by kernel_rfl) _ _ rfl rfl
    have hn4812 := hn4812.lt
    obtain ⟨sl4812, rfl, hts4812⟩ := hn4812.opn
    obtain ⟨a4812, cap4812, rfl, hlen4812, -⟩ := hts4812.get
    obtain ⟨_, hv4813, rfl⟩ := hk 17 (by kernel_rfl) _ _ rfl rfl
    have hn4814 : NodeL _ w1 [.int .u8 2, .int .u64 (Nd.classS ([97])).set.a, .int .u64 (Nd.classS ([97])).set.b, .int .u64 (Nd.classS ([97])).set.c, .int .u64 (Nd.classS ([97])).set.d, .int .i64 1, .int .i64 0, .slice none 0 0] (Nd.mk 2 ((Nd.classS ([97])).set) 1 0 ([])) := NodeL.shut (k := 2) (s := (Nd.classS ([97])).set) (mn := 1) (mx := 0) (sl := .slice none 0 0) (ts := []) (NodesV.nil (fun _ => False) _ none 0)
    have hn4814 := hn4814.lt
    refine ⟨[(108, .agg #[.int .u8 (Nd.mk 3 Nd.zero 0 0 ([(Nd.classS ([97]))])).kind, .int .u64 (Nd.mk 3 Nd.zero 0 0 ([(Nd.classS ([97]))])).set.a, .int .u64 (Nd.mk 3 Nd.zero 0 0 ([(Nd.classS ([97]))])).set.b, .int .u64 (Nd.mk 3 Nd.zero 0 0 ([(Nd.classS ([97]))])).set.c, .int .u64 (Nd.mk 3 Nd.zero 0 0 ([(Nd.classS ([97]))])).set.d, .int .i64 (Nd.mk 3 Nd.zero 0 0 ([(Nd.classS ([97]))])).least, .int .i64 (Nd.mk 3 Nd.zero 0 0 ([(Nd.classS ([97]))])).most, .slice a4808 (Nd.mk 3 Nd.zero 0 0 ([(Nd.classS ([97]))])).subs.length cap4808]), (115, .agg #[.int .u8 (Nd.mk 4 Nd.zero 0 0 ([(Nd.classS ([97])), (Nd.mk 4 Nd.zero 0 0 ([(Nd.classS ([98])), (Nd.classS ([99]))]))])).kind, .int .u64 (Nd.mk 4 Nd.zero 0 0 ([(Nd.classS ([97])), (Nd.mk 4 Nd.zero 0 0 ([(Nd.classS ([98])), (Nd.classS ([99]))]))])).set.a, .int .u64 (Nd.mk 4 Nd.zero 0 0 ([(Nd.classS ([97])), (Nd.mk 4 Nd.zero 0 0 ([(Nd.classS ([98])), (Nd.classS ([99]))]))])).set.b, .int .u64 (Nd.mk 4 Nd.zero 0 0 ([(Nd.classS ([97])), (Nd.mk 4 Nd.zero 0 0 ([(Nd.classS ([98])), (Nd.classS ([99]))]))])).set.c, .int .u64 (Nd.mk 4 Nd.zero 0 0 ([(Nd.classS ([97])), (Nd.mk 4 Nd.zero 0 0 ([(Nd.classS ([98])), (Nd.classS ([99]))]))])).set.d, .int .i64 (Nd.mk 4 Nd.zero 0 0 ([(Nd.classS ([97])), (Nd.mk 4 Nd.zero 0 0 ([(Nd.classS ([98])), (Nd.classS ([99]))]))])).least, .int .i64 (Nd.mk 4 Nd.zero 0 0 ([(Nd.classS ([97])), (Nd.mk 4 Nd.zero 0 0 ([(Nd.classS ([98])), (Nd.classS ([99]))]))])).most, .slice a4809 (Nd.mk 4 Nd.zero 0 0 ([(Nd.classS ([97])), (Nd.mk 4 Nd.zero 0 0 ([(Nd.classS ([98])), (Nd.classS ([99]))]))])).subs.length cap4809]), (117, .agg #[.int .u8 (Nd.mk 5 Nd.zero 1 1 [(Nd.classS ([97]))]).kind, .int .u64 (Nd.mk 5 Nd.zero 1 1 [(Nd.classS ([97]))]).set.a, .int .u64 (Nd.mk 5 Nd.zero 1 1 [(Nd.classS ([97]))]).set.b, .int .u64 (Nd.mk 5 Nd.zero 1 1 [(Nd.classS ([97]))]).set.c, .int .u64 (Nd.mk 5 Nd.zero 1 1 [(Nd.classS ([97]))]).set.d, .int .i64 (Nd.mk 5 Nd.zero 1 1 [(Nd.classS ([97]))]).least, .int .i64 (Nd.mk 5 Nd.zero 1 1 [(Nd.classS ([97]))]).most, .slice a4810 (Nd.mk 5 Nd.zero 1 1 [(Nd.classS ([97]))]).subs.length cap4810]), (119, .agg #[.int .u8 (Nd.mk 5 Nd.zero 3 2 [(Nd.classS ([97]))]).kind, .int .u64 (Nd.mk 5 Nd.zero 3 2 [(Nd.classS ([97]))]).set.a, .int .u64 (Nd.mk 5 Nd.zero 3 2 [(Nd.classS ([97]))]).set.b, .int .u64 (Nd.mk 5 Nd.zero 3 2 [(Nd.classS ([97]))]).set.c, .int .u64 (Nd.mk 5 Nd.zero 3 2 [(Nd.classS ([97]))]).set.d, .int .i64 (Nd.mk 5 Nd.zero 3 2 [(Nd.classS ([97]))]).least, .int .i64 (Nd.mk 5 Nd.zero 3 2 [(Nd.classS ([97]))]).most, .slice a4811 (Nd.mk 5 Nd.zero 3 2 [(Nd.classS ([97]))]).subs.length cap4811]), (120, .agg #[.int .u8 (Nd.classS ([])).kind, .int .u64 (Nd.classS ([])).set.a, .int .u64 (Nd.classS ([])).set.b, .int .u64 (Nd.classS ([])).set.c, .int .u64 (Nd.classS ([])).set.d, .int .i64 (Nd.classS ([])).least, .int .i64 (Nd.classS ([])).most, .slice a4812 (Nd.classS ([])).subs.length cap4812]), (123, .agg #[.int .u8 2, .int .u64 (Nd.classS ([97])).set.a, .int .u64 (Nd.classS ([97])).set.b, .int .u64 (Nd.classS ([97])).set.c, .int .u64 (Nd.classS ([97])).set.d, .int .i64 1, .int .i64 0, .slice none 0 0])], (agree_cons (look_right rfl hv4808) (agree_cons (look_right rfl hv4809) (agree_cons (look_right rfl hv4810) (agree_cons (look_right rfl hv4811) (agree_cons (look_right rfl hv4812) (agree_cons (look_right rfl hv4813) (agree_nil _))))))), ?_⟩
    refine WL.buildSlice (vs := [.agg #[.int .u8 (Nd.mk 3 Nd.zero 0 0 ([(Nd.classS ([97]))])).kind, .int .u64 (Nd.mk 3 Nd.zero 0 0 ([(Nd.classS ([97]))])).set.a, .int .u64 (Nd.mk 3 Nd.zero 0 0 ([(Nd.classS ([97]))])).set.b, .int .u64 (Nd.mk 3 Nd.zero 0 0 ([(Nd.classS ([97]))])).set.c, .int .u64 (Nd.mk 3 Nd.zero 0 0 ([(Nd.classS ([97]))])).set.d, .int .i64 (Nd.mk 3 Nd.zero 0 0 ([(Nd.classS ([97]))])).least, .int .i64 (Nd.mk 3 Nd.zero 0 0 ([(Nd.classS ([97]))])).most, .slice a4808 (Nd.mk 3 Nd.zero 0 0 ([(Nd.classS ([97]))])).subs.length cap4808], .agg #[.int .u8 (Nd.mk 4 Nd.zero 0 0 ([(Nd.classS ([97])), (Nd.mk 4 Nd.zero 0 0 ([(Nd.classS ([98])), (Nd.classS ([99]))]))])).kind, .int .u64 (Nd.mk 4 Nd.zero 0 0 ([(Nd.classS ([97])), (Nd.mk 4 Nd.zero 0 0 ([(Nd.classS ([98])), (Nd.classS ([99]))]))])).set.a, .int .u64 (Nd.mk 4 Nd.zero 0 0 ([(Nd.classS ([97])), (Nd.mk 4 Nd.zero 0 0 ([(Nd.classS ([98])), (Nd.classS ([99]))]))])).set.b, .int .u64 (Nd.mk 4 Nd.zero 0 0 ([(Nd.classS ([97])), (Nd.mk 4 Nd.zero 0 0 ([(Nd.classS ([98])), (Nd.classS ([99]))]))])).set.c, .int .u64 (Nd.mk 4 Nd.zero 0 0 ([(Nd.classS ([97])), (Nd.mk 4 Nd.zero 0 0 ([(Nd.classS ([98])), (Nd.classS ([99]))]))])).set.d, .int .i64 (Nd.mk 4 Nd.zero 0 0 ([(Nd.classS ([97])), (Nd.mk 4 Nd.zero 0 0 ([(Nd.classS ([98])), (Nd.classS ([99]))]))])).least, .int .i64 (Nd.mk 4 Nd.zero 0 0 ([(Nd.classS ([97])), (Nd.mk 4 Nd.zero 0 0 ([(Nd.classS ([98])), (Nd.classS ([99]))]))])).most, .slice a4809 (Nd.mk 4 Nd.zero 0 0 ([(Nd.classS ([97])), (Nd.mk 4 Nd.zero 0 0 ([(Nd.classS ([98])), (Nd.classS ([99]))]))])).subs.length cap4809], .agg #[.int .u8 (Nd.mk 5 Nd.zero 1 1 [(Nd.classS ([97]))]).kind, .int .u64 (Nd.mk 5 Nd.zero 1 1 [(Nd.classS ([97]))]).set.a, .int .u64 (Nd.mk 5 Nd.zero 1 1 [(Nd.classS ([97]))]).set.b, .int .u64 (Nd.mk 5 Nd.zero 1 1 [(Nd.classS ([97]))]).set.c, .int .u64 (Nd.mk 5 Nd.zero 1 1 [(Nd.classS ([97]))]).set.d, .int .i64 (Nd.mk 5 Nd.zero 1 1 [(Nd.classS ([97]))]).least, .int .i64 (Nd.mk 5 Nd.zero 1 1 [(Nd.classS ([97]))]).most, .slice a4810 (Nd.mk 5 Nd.zero 1 1 [(Nd.classS ([97]))]).subs.length cap4810], .agg #[.int .u8 (Nd.mk 5 Nd.zero 3 2 [(Nd.classS ([97]))]).kind, .int .u64 (Nd.mk 5 Nd.zero 3 2 [(Nd.classS ([97]))]).set.a, .int .u64 (Nd.mk 5 Nd.zero 3 2 [(Nd.classS ([97]))]).set.b, .int .u64 (Nd.mk 5 Nd.zero 3 2 [(Nd.classS ([97]))]).set.c, .int .u64 (Nd.mk 5 Nd.zero 3 2 [(Nd.classS ([97]))]).set.d, .int .i64 (Nd.mk 5 Nd.zero 3 2 [(Nd.classS ([97]))]).least, .int .i64 (Nd.mk 5 Nd.zero 3 2 [(Nd.classS ([97]))]).most, .slice a4811 (Nd.mk 5 Nd.zero 3 2 [(Nd.classS ([97]))]).subs.length cap4811], .agg #[.int .u8 (Nd.classS ([])).kind, .int .u64 (Nd.classS ([])).set.a, .int .u64 (Nd.classS ([])).set.b, .int .u64 (Nd.classS ([])).set.c, .int .u64 (Nd.classS ([])).set.d, .int .i64 (Nd.classS ([])).least, .int .i64 (Nd.classS ([])).most, .slice a4812 (Nd.classS ([])).subs.length cap4812], .agg #[.int .u8 2, .int .u64 (Nd.classS ([97])).set.a, .int .u64 (Nd.classS ([97])).set.b, .int .u64 (Nd.classS ([97])).set.c, .int .u64 (Nd.classS ([97])).set.d, .int .i64 1, .int .i64 0, .slice none 0 0]]) (cells := [.int .u8 (Nd.mk 3 Nd.zero 0 0 ([(Nd.classS ([97]))])).kind, .int .u64 (Nd.mk 3 Nd.zero 0 0 ([(Nd.classS ([97]))])).set.a, .int .u64 (Nd.mk 3 Nd.zero 0 0 ([(Nd.classS ([97]))])).set.b, .int .u64 (Nd.mk 3 Nd.zero 0 0 ([(Nd.classS ([97]))])).set.c, .int .u64 (Nd.mk 3 Nd.zero 0 0 ([(Nd.classS ([97]))])).set.d, .int .i64 (Nd.mk 3 Nd.zero 0 0 ([(Nd.classS ([97]))])).least, .int .i64 (Nd.mk 3 Nd.zero 0 0 ([(Nd.classS ([97]))])).most, .slice a4808 (Nd.mk 3 Nd.zero 0 0 ([(Nd.classS ([97]))])).subs.length cap4808, .int .u8 (Nd.mk 4 Nd.zero 0 0 ([(Nd.classS ([97])), (Nd.mk 4 Nd.zero 0 0 ([(Nd.classS ([98])), (Nd.classS ([99]))]))])).kind, .int .u64 (Nd.mk 4 Nd.zero 0 0 ([(Nd.classS ([97])), (Nd.mk 4 Nd.zero 0 0 ([(Nd.classS ([98])), (Nd.classS ([99]))]))])).set.a, .int .u64 (Nd.mk 4 Nd.zero 0 0 ([(Nd.classS ([97])), (Nd.mk 4 Nd.zero 0 0 ([(Nd.classS ([98])), (Nd.classS ([99]))]))])).set.b, .int .u64 (Nd.mk 4 Nd.zero 0 0 ([(Nd.classS ([97])), (Nd.mk 4 Nd.zero 0 0 ([(Nd.classS ([98])), (Nd.classS ([99]))]))])).set.c, .int .u64 (Nd.mk 4 Nd.zero 0 0 ([(Nd.classS ([97])), (Nd.mk 4 Nd.zero 0 0 ([(Nd.classS ([98])), (Nd.classS ([99]))]))])).set.d, .int .i64 (Nd.mk 4 Nd.zero 0 0 ([(Nd.classS ([97])), (Nd.mk 4 Nd.zero 0 0 ([(Nd.classS ([98])), (Nd.classS ([99]))]))])).least, .int .i64 (Nd.mk 4 Nd.zero 0 0 ([(Nd.classS ([97])), (Nd.mk 4 Nd.zero 0 0 ([(Nd.classS ([98])), (Nd.classS ([99]))]))])).most, .slice a4809 (Nd.mk 4 Nd.zero 0 0 ([(Nd.classS ([97])), (Nd.mk 4 Nd.zero 0 0 ([(Nd.classS ([98])), (Nd.classS ([99]))]))])).subs.length cap4809, .int .u8 (Nd.mk 5 Nd.zero 1 1 [(Nd.classS ([97]))]).kind, .int .u64 (Nd.mk 5 Nd.zero 1 1 [(Nd.classS ([97]))]).set.a, .int .u64 (Nd.mk 5 Nd.zero 1 1 [(Nd.classS ([97]))]).set.b, .int .u64 (Nd.mk 5 Nd.zero 1 1 [(Nd.classS ([97]))]).set.c, .int .u64 (Nd.mk 5 Nd.zero 1 1 [(Nd.classS ([97]))]).set.d, .int .i64 (Nd.mk 5 Nd.zero 1 1 [(Nd.classS ([97]))]).least, .int .i64 (Nd.mk 5 Nd.zero 1 1 [(Nd.classS ([97]))]).most, .slice a4810 (Nd.mk 5 Nd.zero 1 1 [(Nd.classS ([97]))]).subs.length cap4810, .int .u8 (Nd.mk 5 Nd.zero 3 2 [(Nd.classS ([97]))]).kind, .int .u64 (Nd.mk 5 Nd.zero 3 2 [(Nd.classS ([97]))]).set.a, .int .u64 (Nd.mk 5 Nd.zero 3 2 [(Nd.classS ([97]))]).set.b, .int .u64 (Nd.mk 5 Nd.zero 3 2 [(Nd.classS ([97]))]).set.c, .int .u64 (Nd.mk 5 Nd.zero 3 2 [(Nd.classS ([97]))]).set.d, .int .i64 (Nd.mk 5 Nd.zero 3 2 [(Nd.classS ([97]))]).least, .int .i64 (Nd.mk 5 Nd.zero 3 2 [(Nd.classS ([97]))]).most, .slice a4811 (Nd.mk 5 Nd.zero 3 2 [(Nd.classS ([97]))]).subs.length cap4811, .int .u8 (Nd.classS ([])).kind, .int .u64 (Nd.classS ([])).set.a, .int .u64 (Nd.classS ([])).set.b, .int .u64 (Nd.classS ([])).set.c, .int .u64 (Nd.classS ([])).set.d, .int .i64 (Nd.classS ([])).least, .int .i64 (Nd.classS ([])).most, .slice a4812 (Nd.classS ([])).subs.length cap4812, .int .u8 2, .int .u64 (Nd.classS ([97])).set.a, .int .u64 (Nd.classS ([97])).set.b, .int .u64 (Nd.classS ([97])).set.c, .int .u64 (Nd.classS ([97])).set.d, .int .i64 1, .int .i64 0, .slice none 0 0]) rfl rfl Ty.slice27 Ty.zero29 rfl rfl rfl rfl rfl rfl (fun b4815 w4820 hb4816 hE4819 hs4817 hR4818 => ?_)
    have hts4815 := (NodesV.lit (n := 6) (ts := [(Nd.mk 3 Nd.zero 0 0 ([(Nd.classS ([97]))])), (Nd.mk 4 Nd.zero 0 0 ([(Nd.classS ([97])), (Nd.mk 4 Nd.zero 0 0 ([(Nd.classS ([98])), (Nd.classS ([99]))]))])), (Nd.mk 5 Nd.zero 1 1 [(Nd.classS ([97]))]), (Nd.mk 5 Nd.zero 3 2 [(Nd.classS ([97]))]), (Nd.classS ([])), (Nd.mk 2 ((Nd.classS ([97])).set) 1 0 ([]))]) hR4818 (RowsL.cons (hn4808.ext hE4819) (RowsL.cons (hn4809.ext hE4819) (RowsL.cons (hn4810.ext hE4819) (RowsL.cons (hn4811.ext hE4819) (RowsL.cons (hn4812.ext hE4819) (RowsL.cons (hn4814.ext hE4819) (RowsL.nil' _))))))) rfl rfl (by decide)).lt
    refine WL.nil (fun a_ ha => ?_)
    exact ⟨_, β, ha, hE4819, BExt.refl _ _, hbi.ext hE4819, ⟨_, _, rfl, (hts4815.dom (by intro k h1; refine ⟨trivial, ?_, h1.2⟩; replace h1 := h1.1; intro x hxm; have hi := hbi.hi x hxm; have lo := hbi.lo x hxm; (try dsimp only at h1); (repeat' first | (guard_hyp h1 : _ ∨ _; refine Or.elim h1 (fun h1 => ?_) (fun h1 => ?_)) | (guard_hyp h1 : _ ∧ _; have hx := h1.2; replace h1 := h1.1)) <;> first | contradiction | omega | exact hx.1 x hxm))⟩⟩
  · intro σ β w1 hE1 hbi hk
    have hz1 := hE1.size
    obtain ⟨_, hv4908, a4908, cap4908, rfl, hts4908⟩ := hk 18 (by kernel_rfl) _ _ rfl rfl
    have hts4908 := hts4908.lt
    have hlen4908 := hts4908.len
    refine ⟨[(124, .slice a4908 (([(Nd.mk 3 Nd.zero 0 0 ([(Nd.classS ([97]))])), (Nd.mk 4 Nd.zero 0 0 ([(Nd.classS ([97])), (Nd.mk 4 Nd.zero 0 0 ([(Nd.classS ([98])), (Nd.classS ([99]))]))])), (Nd.mk 5 Nd.zero 1 1 [(Nd.classS ([97]))]), (Nd.mk 5 Nd.zero 3 2 [(Nd.classS ([97]))]), (Nd.classS ([])), (Nd.mk 2 ((Nd.classS ([97])).set) 1 0 ([]))]).length) cap4908)], (agree_cons (look_right rfl hv4908) (agree_nil _)), ?_⟩
    refine WL.len rfl rfl Try.underlying27 rfl ?_
    refine WL.nil (fun a_ ha => ?_)
    exact ⟨_, β, ha, (Ext.refl _), BExt.refl _ _, hbi.ext (Ext.refl _), rfl⟩
  · intro σ β w1 hE1 hbi hk
    have hz1 := hE1.size
    refine ⟨[], (agree_nil _), ?_⟩
    refine WL.move rfl rfl rfl ?_
    refine WL.nil (fun a_ ha => ?_)
    exact ⟨_, β, ha, (Ext.refl _), BExt.refl _ _, hbi.ext (Ext.refl _), rfl⟩
  intro σ β w2807 hE2807 hbi2807 hk
  have hz2807 := hE2807.size
  have hbi := hbi2807
  obtain ⟨_, hv2808, a2808, cap2808, rfl, hts2808⟩ := hk 18 (by decide) _ _ rfl rfl
  have hts2808 := hts2808.lt
  have hlen2808 := hts2808.len
  obtain ⟨_, hv2809, rfl⟩ := hk 19 (by decide) _ _ rfl rfl
  obtain ⟨_, hv2810, rfl⟩ := hk 20 (by decide) _ _ rfl rfl
  refine WL.know [(124, .slice a2808 (([(Nd.mk 3 Nd.zero 0 0 ([(Nd.classS ([97]))])), (Nd.mk 4 Nd.zero 0 0 ([(Nd.classS ([97])), (Nd.mk 4 Nd.zero 0 0 ([(Nd.classS ([98])), (Nd.classS ([99]))]))])), (Nd.mk 5 Nd.zero 1 1 [(Nd.classS ([97]))]), (Nd.mk 5 Nd.zero 3 2 [(Nd.classS ([97]))]), (Nd.classS ([])), (Nd.mk 2 ((Nd.classS ([97])).set) 1 0 ([]))]).length) cap2808), (125, .int .i64 6), (126, .int .i64 0)] (agree_cons (look_right rfl hv2808) (agree_cons (look_right rfl hv2809) (agree_cons (look_right rfl hv2810) (agree_nil _)))) ?_
  refine WL.done' ?_ (fun _ _ h => h)
  refine WC.block ?_
  have hall : ∀ t ∈ [(Nd.mk 3 Nd.zero 0 0 ([(Nd.classS ([97]))])), (Nd.mk 4 Nd.zero 0 0 ([(Nd.classS ([97])), (Nd.mk 4 Nd.zero 0 0 ([(Nd.classS ([98])), (Nd.classS ([99]))]))])), (Nd.mk 5 Nd.zero 1 1 [(Nd.classS ([97]))]), (Nd.mk 5 Nd.zero 3 2 [(Nd.classS ([97]))]), (Nd.classS ([])), (Nd.mk 2 ((Nd.classS ([97])).set) 1 0 ([]))], Nd.clean t = false := fun t ht => by have hq : (([(Nd.mk 3 Nd.zero 0 0 ([(Nd.classS ([97]))])), (Nd.mk 4 Nd.zero 0 0 ([(Nd.classS ([97])), (Nd.mk 4 Nd.zero 0 0 ([(Nd.classS ([98])), (Nd.classS ([99]))]))])), (Nd.mk 5 Nd.zero 1 1 [(Nd.classS ([97]))]), (Nd.mk 5 Nd.zero 3 2 [(Nd.classS ([97]))]), (Nd.classS ([])), (Nd.mk 2 ((Nd.classS ([97])).set) 1 0 ([]))]).all fun t => !t.clean) = true := (by kernel_rfl); have := List.all_eq_true.1 hq t ht; simpa using this
  refine WC.weaken (r' := [(124, .slice a2808 (([(Nd.mk 3 Nd.zero 0 0 ([(Nd.classS ([97]))])), (Nd.mk 4 Nd.zero 0 0 ([(Nd.classS ([97])), (Nd.mk 4 Nd.zero 0 0 ([(Nd.classS ([98])), (Nd.classS ([99]))]))])), (Nd.mk 5 Nd.zero 1 1 [(Nd.classS ([97]))]), (Nd.mk 5 Nd.zero 3 2 [(Nd.classS ([97]))]), (Nd.classS ([])), (Nd.mk 2 ((Nd.classS ([97])).set) 1 0 ([]))]).length) cap2808), (125, .int .i64 6), (126, .int .i64 0)]) (subReg_cons rfl (subReg_cons rfl (subReg_cons rfl (subReg_nil _)))) ?_
  refine WC.loop (σ := Nat) (fun k r_ w_ => r_ = [(124, .slice a2808 (([(Nd.mk 3 Nd.zero 0 0 ([(Nd.classS ([97]))])), (Nd.mk 4 Nd.zero 0 0 ([(Nd.classS ([97])), (Nd.mk 4 Nd.zero 0 0 ([(Nd.classS ([98])), (Nd.classS ([99]))]))])), (Nd.mk 5 Nd.zero 1 1 [(Nd.classS ([97]))]), (Nd.mk 5 Nd.zero 3 2 [(Nd.classS ([97]))]), (Nd.classS ([])), (Nd.mk 2 ((Nd.classS ([97])).set) 1 0 ([]))]).length) cap2808), (125, .int .i64 6), (126, .int .i64 (k : Int))] ∧ Ext w2807 w_ ∧ k ≤ 6) (fun k => 6 - k) 0 ⟨rfl, (Ext.refl _), (Nat.zero_le _)⟩ ?_
  rintro k r_ w2813 ⟨rfl, hE2811, hI2812⟩
  have hzhE2811 := hE2811.size
  have hk := hI2812
  refine WC.seqk ?_
  refine WC.region ?_
  cases hc2814 : decide (((k : Int) : Int) < 6) with
  | false =>
    refine WL.lss rfl rfl rfl rfl hc2814 ?_
    have hp2814 := of_decide_eq_false hc2814
    refine WL.done' ?_ (fun _ _ h => h)
    refine WC.seqk ?_
    refine WC.cond_f rfl ?_
    refine WC.exit (fun a_ ha => ?_)
    refine exit_then ?_
    refine exit_then ?_
    refine exit_here ?_
    refine WC.at ?_ ha
    refine WC.seqk ?_
    refine WC.region ?_
    refine WL.assign rfl rfl rfl ?_
    refine WL.done' ?_ (fun _ _ h => h)
    refine WC.ret (fun a_ ha => ?_)
    exact bodyPost_tmp rfl ha rfl ⟨rfl, (((((((((((((hB965.onto (hB962.onto ((hB48.onto (hB44.onto (hB40.onto (hB36.onto ((((((hE2.trans hE5).trans hE8).trans hE15).trans hE21).trans hE27).trans hE33) (by omega)) (by omega)) (by omega)) (by omega)).trans hE956) (by omega)) (by omega)).trans hE968).trans hE971).trans hE974).trans hE977).trans hE981).trans hE983).trans hE987).trans hE989).trans hE993).trans hE1904).trans hE2807).trans hE2811)⟩
  | true =>
    refine WL.lss rfl rfl rfl rfl hc2814 ?_
    have hp2814 := of_decide_eq_true hc2814
    refine WL.done' ?_ (fun _ _ h => h)
    refine WC.seqk ?_
    refine WC.cond_t rfl ?_
    refine WC.skip'' ?_ (fun _ _ h => h)
    refine WC.seqk ?_
    refine WC.block ?_
    refine WC.seqk ?_
    refine WC.region ?_
    obtain ⟨t2865, ht2865⟩ : ∃ t, [(Nd.mk 3 Nd.zero 0 0 ([(Nd.classS ([97]))])), (Nd.mk 4 Nd.zero 0 0 ([(Nd.classS ([97])), (Nd.mk 4 Nd.zero 0 0 ([(Nd.classS ([98])), (Nd.classS ([99]))]))])), (Nd.mk 5 Nd.zero 1 1 [(Nd.classS ([97]))]), (Nd.mk 5 Nd.zero 3 2 [(Nd.classS ([97]))]), (Nd.classS ([])), (Nd.mk 2 ((Nd.classS ([97])).set) 1 0 ([]))][k]? = some t := ⟨_, List.getElem?_eq_getElem (by first | decide | (show k < 6; omega))⟩
    obtain ⟨eb2865, eo2865, el2865, hea2865, hD2865, her2865, hn2865⟩ := (hts2808.ext hE2811).at ht2865
    obtain ⟨sl2865, rfl, hts2865⟩ := hn2865.opn
    obtain ⟨a2865, cap2865, rfl, hlen2865, -⟩ := hts2865.get
    subst hea2865
    refine WL.indexAddr (i := k) rfl rfl Ty.slice27 rfl rfl rfl (by first | decide | (show k < 6; omega)) ?_
    refine WL.load_agg (l := tcells t2865 (.slice a2865 t2865.subs.length cap2865)) rfl rfl Ty.agg29 rfl her2865 ?_
    refine WL.alloc rfl rfl Ty.zero29 rfl (fun b2866 w2871 hb2867 hE2870 hs2868 hR2869 => ?_)
    refine WL.store_box rfl rfl rfl hR2869 Ty.agg29 rfl rfl (fun w2874 hB2873 hR2872 => ?_)
    have hzhB2873 := hB2873.size
    refine WL.done' ?_ (fun _ _ h => h)
    refine WC.seqk ?_
    refine WC.region ?_
    refine WL.load_box rfl rfl rfl hR2872 Ty.agg29 ?_
    have h2875 := ((hn2865.ext hE2870).but hB2873 (by intro h1; first | omega | ((try dsimp only at h1); (repeat' first | (guard_hyp h1 : _ ∨ _; refine Or.elim h1 (fun h1 => ?_) (fun h1 => ?_)) | (guard_hyp h1 : _ ∧ _; have hx := h1.2; replace h1 := h1.1)) <;> first | contradiction | omega)))
    refine WL.call rfl rfl rfl Ty.ent12 (clean_ok _ _ _ _ h2875) ?_
    rintro _ w2877 ⟨he, hE2876⟩
    have hq : (Nd.clean t2865) = false := (hall _ (List.mem_of_getElem? ht2865))
    rw [hq] at he
    subst he
    clear hq
    have hzhE2876 := hE2876.size
    refine ⟨_, rfl, ?_⟩
    refine WL.done' ?_ (fun _ _ h => h)
    refine WC.cond_f rfl ?_
    refine WC.skip'' ?_ (fun _ _ h => h)
    refine WC.region ?_
    refine WL.add (v := (k : Int) + 1) rfl rfl rfl rfl (IntWalk.i64_in _ (by omega)) ?_
    refine WL.move rfl rfl rfl ?_
    refine WL.nil (fun a_ ha => ?_)
    exact ⟨k + 1, _, ha.weaken (subReg_cons rfl (subReg_cons rfl (subReg_cons rfl (subReg_nil _)))), ⟨rfl, ((hB2873.onto (hE2811.trans hE2870) (by omega)).trans hE2876), (by omega)⟩, by first | omega | (dsimp only; omega)⟩

end Go.Proofs.Ytaggidjijekpbaa
