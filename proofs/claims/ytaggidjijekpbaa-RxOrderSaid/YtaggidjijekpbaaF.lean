/- Walks through the program's functions: each computes what the plain Lean function says. Printed by our own gen/r8.py. -/
import Derived.Test.YtaggidjijekpbaaE
import Derived.KernelRfl
namespace Go.Proofs.Ytaggidjijekpbaa
open Go.Proofs Go.RowKit

set_option maxRecDepth 20000 in
set_option maxHeartbeats 4000000 in
theorem times_ok (D : Nat → Prop) (w : World) (l : List Value) (T : Nd) (mn mx : Int) (hT : NodeL D w l T) :
    Calls Try.prog 19 #[.agg l.toArray, .int .i64 mn, .int .i64 mx] w fun e w' => ∃ l', e = .returned (.agg l'.toArray) ∧ NodeL (fun k => w.heap.size ≤ k) w' l' (Nd.times T mn mx) ∧ Ext w w' := by
  have hT := hT.lt
  obtain ⟨sl, rfl, hts⟩ := hT.opn
  obtain ⟨a, cap, rfl, hlen, -⟩ := hts.get
  refine Calls.enter (args := [.agg #[.int .u8 T.kind, .int .u64 T.set.a, .int .u64 T.set.b, .int .u64 T.set.c, .int .u64 T.set.d, .int .i64 T.least, .int .i64 T.most, .slice a T.subs.length cap], .int .i64 mn, .int .i64 mx]) Try.func19 rfl rfl rfl rfl ?_
  refine WC.seqk ?_
  refine WC.region ?_
  refine WL.box_agg rfl rfl rfl (fun b1 w6 hb2 hE5 hs3 hR4 => ?_)
  refine WL.alloc rfl rfl Ty.zero29 rfl (fun b7 w12 hb8 hE11 hs9 hR10 => ?_)
  refine WL.done' ?_ (fun _ _ h => h)
  refine WC.seqk ?_
  refine WC.region ?_
  refine WL.move rfl rfl rfl ?_
  cases hc13 : ((mn : Int) == 0) with
  | false =>
    refine WL.eql rfl rfl rfl rfl hc13 ?_
    have hp13 := beq_eq_false_iff_ne.1 hc13
    refine WL.move rfl rfl rfl ?_
    refine WL.pass rfl rfl ?_
    refine WL.pass rfl rfl ?_
    refine WL.pick_f rfl rfl rfl rfl ?_
    refine WL.move rfl rfl rfl ?_
    cases hc14 : ((mn : Int) == 1) with
    | false =>
      refine WL.eql rfl rfl rfl rfl hc14 ?_
      have hp14 := beq_eq_false_iff_ne.1 hc14
      refine WL.move rfl rfl rfl ?_
      refine WL.pass rfl rfl ?_
      refine WL.pass rfl rfl ?_
      refine WL.pick_f rfl rfl rfl rfl ?_
      refine WL.assign rfl rfl rfl ?_
      refine WL.assign rfl rfl rfl ?_
      refine WL.done' ?_ (fun _ _ h => h)
      refine WC.seqk ?_
      refine WC.block ?_
      refine WC.seqk ?_
      refine WC.weaken (r' := [(1, .int .i64 mn), (2, .int .i64 mx), (3, .pointer (some ⟨b1, 0, none⟩)), (6, .pointer (some ⟨b7, 0, none⟩)), (7, .bool false), (8, .bool false)]) (subReg_cons rfl (subReg_cons rfl (subReg_cons rfl (subReg_cons rfl (subReg_cons rfl (subReg_cons rfl (subReg_nil _))))))) ?_
      refine WC.region ?_
      refine WL.load_box rfl rfl rfl (hR4.ext hE11) Ty.agg29 ?_
      have h15 := ((hT.ext hE5).ext hE11)
      refine WL.call rfl rfl rfl Ty.ent34 (good_ok _ _ _ _ h15) ?_
      rintro _ w17 ⟨rfl, hE16⟩
      have hzhE16 := hE16.size
      refine ⟨_, rfl, ?_⟩
      cases hc18 : Nd.good T with
      | false =>
        refine WL.not rfl rfl rfl ?_
        refine WL.move rfl rfl rfl ?_
        refine WL.pass rfl rfl ?_
        refine WL.pass rfl rfl ?_
        refine WL.pass rfl rfl ?_
        refine WL.pass rfl rfl ?_
        refine WL.pass rfl rfl ?_
        refine WL.pass rfl rfl ?_
        refine WL.pass rfl rfl ?_
        refine WL.pass rfl rfl ?_
        refine WL.pass rfl rfl ?_
        refine WL.pass rfl rfl ?_
        refine WL.pass rfl rfl ?_
        refine WL.pass rfl rfl ?_
        refine WL.pick_t rfl rfl rfl rfl ?_
        refine WL.assign rfl rfl rfl ?_
        refine WL.done' ?_ (fun _ _ h => h)
        refine WC.cond_t rfl ?_
        refine WC.seqk ?_
        refine WC.weaken (r' := [(1, .int .i64 mn), (2, .int .i64 mx), (3, .pointer (some ⟨b1, 0, none⟩)), (6, .pointer (some ⟨b7, 0, none⟩)), (7, .bool false), (8, .bool false), (21, .bool true)]) (subReg_cons rfl (subReg_cons rfl (subReg_cons rfl (subReg_cons rfl (subReg_cons rfl (subReg_cons rfl (subReg_cons rfl (subReg_nil _)))))))) ?_
        refine WC.region ?_
        refine WL.build0 (l := [.int .u8 0, .int .u64 0, .int .u64 0, .int .u64 0, .int .u64 0, .int .i64 0, .int .i64 0, .slice none 0 0]) rfl rfl Ty.zero29 Ty.agg29 rfl Ty.bz29 ?_
        have hn19 : NodeL _ w17 [.int .u8 0, .int .u64 0, .int .u64 0, .int .u64 0, .int .u64 0, .int .i64 0, .int .i64 0, .slice none 0 0] (Nd.mk 0 Nd.zero 0 0 ([])) := NodeL.shut (k := 0) (s := Nd.zero) (mn := 0) (mx := 0) (sl := .slice none 0 0) (ts := []) (NodesV.nil (fun _ => False) _ none 0)
        have hn19 := hn19.lt
        refine WL.store_box rfl rfl rfl (hR10.ext hE16) Ty.agg29 rfl rfl (fun w22 hB21 hR20 => ?_)
        have hzhB21 := hB21.size
        refine WL.done' ?_ (fun _ _ h => h)
        refine WC.ret (fun a_ ha => ?_)
        refine ret_block ?_
        refine ret_then ?_
        exact bodyPost_cell (l := [.int .u8 0, .int .u64 0, .int .u64 0, .int .u64 0, .int .u64 0, .int .i64 0, .int .i64 0, .slice none 0 0]) rfl ha rfl Ty.agg29 hR20 ⟨_, rfl, (by simp only [Nd.times, hc13, hc14, hc18, cond_true, cond_false, Bool.not_false, Bool.true_or, Bool.false_or, Bool.and_true, Bool.true_and, Bool.false_and]; exact ((hn19.but hB21 (by intro h1; first | omega | ((try dsimp only at h1); (repeat' first | (guard_hyp h1 : _ ∨ _; refine Or.elim h1 (fun h1 => ?_) (fun h1 => ?_)) | (guard_hyp h1 : _ ∧ _; have hx := h1.2; replace h1 := h1.1)) <;> first | contradiction | omega))).dom (by intro k hk; (try dsimp only at hk); first | omega | exact hk.1.elim))), (hB21.onto ((hE5.trans hE11).trans hE16) (by omega))⟩
      | true =>
        refine WL.not rfl rfl rfl ?_
        refine WL.move rfl rfl rfl ?_
        refine WL.move rfl rfl rfl ?_
        refine WL.not rfl rfl rfl ?_
        refine WL.move rfl rfl rfl ?_
        refine WL.move rfl rfl rfl ?_
        refine WL.not rfl rfl rfl ?_
        refine WL.pick_t rfl rfl rfl rfl ?_
        refine WL.move rfl rfl rfl ?_
        refine WL.move rfl rfl rfl ?_
        refine WL.move rfl rfl rfl ?_
        refine WL.call rfl rfl rfl Ty.ent40 (bounds_ok mn mx _) ?_
        rintro _ w70 ⟨rfl, hE69⟩
        have hzhE69 := hE69.size
        refine ⟨_, rfl, ?_⟩
        cases hc71 : Nd.bounds mn mx with
        | false =>
          refine WL.not rfl rfl rfl ?_
          refine WL.pick_t rfl rfl rfl rfl ?_
          refine WL.pick_f rfl rfl rfl rfl ?_
          refine WL.assign rfl rfl rfl ?_
          refine WL.done' ?_ (fun _ _ h => h)
          refine WC.cond_t rfl ?_
          refine WC.seqk ?_
          refine WC.weaken (r' := [(1, .int .i64 mn), (2, .int .i64 mx), (3, .pointer (some ⟨b1, 0, none⟩)), (6, .pointer (some ⟨b7, 0, none⟩)), (7, .bool false), (8, .bool false), (21, .bool true)]) (subReg_cons rfl (subReg_cons rfl (subReg_cons rfl (subReg_cons rfl (subReg_cons rfl (subReg_cons rfl (subReg_cons rfl (subReg_nil _)))))))) ?_
          refine WC.region ?_
          refine WL.build0 (l := [.int .u8 0, .int .u64 0, .int .u64 0, .int .u64 0, .int .u64 0, .int .i64 0, .int .i64 0, .slice none 0 0]) rfl rfl Ty.zero29 Ty.agg29 rfl Ty.bz29 ?_
          have hn72 : NodeL _ w70 [.int .u8 0, .int .u64 0, .int .u64 0, .int .u64 0, .int .u64 0, .int .i64 0, .int .i64 0, .slice none 0 0] (Nd.mk 0 Nd.zero 0 0 ([])) := NodeL.shut (k := 0) (s := Nd.zero) (mn := 0) (mx := 0) (sl := .slice none 0 0) (ts := []) (NodesV.nil (fun _ => False) _ none 0)
          have hn72 := hn72.lt
          have h75 := ((hR10.ext hE16).ext hE69)
          refine WL.store_box rfl rfl rfl h75 Ty.agg29 rfl rfl (fun w76 hB74 hR73 => ?_)
          have hzhB74 := hB74.size
          refine WL.done' ?_ (fun _ _ h => h)
          refine WC.ret (fun a_ ha => ?_)
          refine ret_block ?_
          refine ret_then ?_
          exact bodyPost_cell (l := [.int .u8 0, .int .u64 0, .int .u64 0, .int .u64 0, .int .u64 0, .int .i64 0, .int .i64 0, .slice none 0 0]) rfl ha rfl Ty.agg29 hR73 ⟨_, rfl, (by simp only [Nd.times, hc13, hc14, hc18, hc71, cond_true, cond_false, Bool.not_true, Bool.not_false, Bool.or_true, Bool.false_or, Bool.and_true, Bool.false_and]; exact ((hn72.but hB74 (by intro h1; first | omega | ((try dsimp only at h1); (repeat' first | (guard_hyp h1 : _ ∨ _; refine Or.elim h1 (fun h1 => ?_) (fun h1 => ?_)) | (guard_hyp h1 : _ ∧ _; have hx := h1.2; replace h1 := h1.1)) <;> first | contradiction | omega))).dom (by intro k hk; (try dsimp only at hk); first | omega | exact hk.1.elim))), (hB74.onto (((hE5.trans hE11).trans hE16).trans hE69) (by omega))⟩
        | true =>
          refine WL.not rfl rfl rfl ?_
          refine WL.pick_t rfl rfl rfl rfl ?_
          refine WL.pick_f rfl rfl rfl rfl ?_
          refine WL.assign rfl rfl rfl ?_
          refine WL.done' ?_ (fun _ _ h => h)
          refine WC.cond_f rfl ?_
          refine WC.seqk ?_
          refine WC.weaken (r' := [(1, .int .i64 mn), (2, .int .i64 mx), (3, .pointer (some ⟨b1, 0, none⟩)), (6, .pointer (some ⟨b7, 0, none⟩)), (7, .bool false), (8, .bool false), (21, .bool false)]) (subReg_cons rfl (subReg_cons rfl (subReg_cons rfl (subReg_cons rfl (subReg_cons rfl (subReg_cons rfl (subReg_cons rfl (subReg_nil _)))))))) ?_
          refine WC.region ?_
          refine WL.fieldAddr rfl rfl Ty.fld29_0 rfl ?_
          have h122 := (((hR4.ext hE11).ext hE16).ext hE69)
          refine WL.load_fld rfl rfl Ty.flat5 rfl h122 rfl ?_
          cases hc123 : ((T.kind : Int) == 0) with
          | false =>
            refine WL.eql rfl rfl rfl rfl hc123 ?_
            have hp123 := beq_eq_false_iff_ne.1 hc123
            refine WL.move rfl rfl rfl ?_
            refine WL.pass rfl rfl ?_
            refine WL.pass rfl rfl ?_
            refine WL.pick_f rfl rfl rfl rfl ?_
            refine WL.assign rfl rfl rfl ?_
            refine WL.done' ?_ (fun _ _ h => h)
            refine WC.cond_f rfl ?_
            refine WC.seqk ?_
            refine WC.weaken (r' := [(1, .int .i64 mn), (2, .int .i64 mx), (3, .pointer (some ⟨b1, 0, none⟩)), (6, .pointer (some ⟨b7, 0, none⟩)), (7, .bool false), (8, .bool false), (21, .bool false), (40, .bool false)]) (subReg_cons rfl (subReg_cons rfl (subReg_cons rfl (subReg_cons rfl (subReg_cons rfl (subReg_cons rfl (subReg_cons rfl (subReg_cons rfl (subReg_nil _))))))))) ?_
            refine WC.region ?_
            refine WL.move rfl rfl rfl ?_
            refine WL.move rfl rfl rfl ?_
            refine WL.fieldAddr rfl rfl Ty.fld29_0 rfl ?_
            refine WL.load_fld rfl rfl Ty.flat5 rfl h122 rfl ?_
            refine WL.eql rfl rfl rfl rfl hc123 ?_
            refine WL.pick_f rfl rfl rfl rfl ?_
            refine WL.move rfl rfl rfl ?_
            refine WL.fieldAddr rfl rfl Ty.fld29_0 rfl ?_
            refine WL.load_fld rfl rfl Ty.flat5 rfl h122 rfl ?_
            cases hc124 : ((T.kind : Int) == 1) with
            | false =>
              refine WL.eql rfl rfl rfl rfl hc124 ?_
              have hp124 := beq_eq_false_iff_ne.1 hc124
              refine WL.pick_f rfl rfl rfl rfl ?_
              refine WL.assign rfl rfl rfl ?_
              refine WL.done' ?_ (fun _ _ h => h)
              refine WC.cond_f rfl ?_
              refine WC.seqk ?_
              refine WC.weaken (r' := [(1, .int .i64 mn), (2, .int .i64 mx), (3, .pointer (some ⟨b1, 0, none⟩)), (6, .pointer (some ⟨b7, 0, none⟩)), (8, .bool false), (21, .bool false), (40, .bool false), (49, .bool false)]) (subReg_cons rfl (subReg_cons rfl (subReg_cons rfl (subReg_cons rfl (subReg_cons rfl (subReg_cons rfl (subReg_cons rfl (subReg_cons rfl (subReg_nil _))))))))) ?_
              refine WC.region ?_
              refine WL.move rfl rfl rfl ?_
              refine WL.assign rfl rfl rfl ?_
              refine WL.done' ?_ (fun _ _ h => h)
              refine WC.cond_f rfl ?_
              refine WC.skip'' ?_ (fun _ _ h => h)
              refine WC.seqk ?_
              refine WC.region ?_
              refine WL.move rfl rfl rfl ?_
              refine WL.move rfl rfl rfl ?_
              refine WL.load_box rfl rfl rfl h122 Ty.agg29 ?_
              have h125 := ((h15.ext hE16).ext hE69)
              refine WL.buildSlice (vs := [.agg #[.int .u8 T.kind, .int .u64 T.set.a, .int .u64 T.set.b, .int .u64 T.set.c, .int .u64 T.set.d, .int .i64 T.least, .int .i64 T.most, .slice a T.subs.length cap]]) (cells := [.int .u8 T.kind, .int .u64 T.set.a, .int .u64 T.set.b, .int .u64 T.set.c, .int .u64 T.set.d, .int .i64 T.least, .int .i64 T.most, .slice a T.subs.length cap]) rfl rfl Ty.slice27 Ty.zero29 rfl rfl rfl rfl rfl rfl (fun b126 w131 hb127 hE130 hs128 hR129 => ?_)
              have hts126 := (NodesV.lit (n := 1) (ts := [T]) hR129 (RowsL.cons (h125.ext hE130) (RowsL.nil' _)) rfl rfl (by decide)).lt
              refine WL.build (l := [.int .u8 5, .int .u64 0, .int .u64 0, .int .u64 0, .int .u64 0, .int .i64 mn, .int .i64 mx, .slice (some ⟨b126, 0, none⟩) 1 1]) rfl rfl Ty.zero29 Ty.st29 ⟨⟨rfl, rfl⟩, (by kernel_rfl)⟩ ?_
              have hn132 : NodeL _ w131 [.int .u8 5, .int .u64 0, .int .u64 0, .int .u64 0, .int .u64 0, .int .i64 mn, .int .i64 mx, .slice (some ⟨b126, 0, none⟩) 1 1] (Nd.mk 5 Nd.zero mn mx ([T])) := NodeL.shut (k := 5) (s := Nd.zero) (mn := mn) (mx := mx) (sl := .slice (some ⟨b126, 0, none⟩) 1 1) (ts := [T]) hts126
              have hn132 := hn132.lt
              refine WL.call rfl rfl rfl Ty.ent42 (checked_ok _ _ _ _ hn132) ?_
              rintro _ w135 ⟨l133, rfl, hr133, hE134⟩
              have hzhE134 := hE134.size
              refine ⟨_, rfl, ?_⟩
              have hn133 := hr133.lt
              obtain ⟨sl133, rfl, hts133⟩ := hn133.opn
              obtain ⟨a133, cap133, rfl, hlen133, -⟩ := hts133.get
              have h138 := ((((hR10.ext hE16).ext hE69).ext hE130).ext hE134)
              refine WL.store_box rfl rfl rfl h138 Ty.agg29 rfl rfl (fun w139 hB137 hR136 => ?_)
              have hzhB137 := hB137.size
              refine WL.done' ?_ (fun _ _ h => h)
              refine WC.ret (fun a_ ha => ?_)
              exact bodyPost_cell (l := [.int .u8 ((Nd.mk 5 Nd.zero mn mx ([T])).checked).kind, .int .u64 ((Nd.mk 5 Nd.zero mn mx ([T])).checked).set.a, .int .u64 ((Nd.mk 5 Nd.zero mn mx ([T])).checked).set.b, .int .u64 ((Nd.mk 5 Nd.zero mn mx ([T])).checked).set.c, .int .u64 ((Nd.mk 5 Nd.zero mn mx ([T])).checked).set.d, .int .i64 ((Nd.mk 5 Nd.zero mn mx ([T])).checked).least, .int .i64 ((Nd.mk 5 Nd.zero mn mx ([T])).checked).most, .slice a133 ((Nd.mk 5 Nd.zero mn mx ([T])).checked).subs.length cap133]) rfl ha rfl Ty.agg29 hR136 ⟨_, rfl, (by simp only [Nd.times, hc13, hc14, hc18, hc71, hc123, hc124, cond_false, Bool.not_true, Bool.not_false, Bool.or_false, Bool.and_true, Bool.and_false, Bool.false_and]; exact ((hn133.but hB137 (by intro h1; first | omega | ((try dsimp only at h1); (repeat' first | (guard_hyp h1 : _ ∨ _; refine Or.elim h1 (fun h1 => ?_) (fun h1 => ?_)) | (guard_hyp h1 : _ ∧ _; have hx := h1.2; replace h1 := h1.1)) <;> first | contradiction | omega))).dom (by intro k hk; (try dsimp only at hk); first | omega | exact hk.1.elim))), (hB137.onto (((((hE5.trans hE11).trans hE16).trans hE69).trans hE130).trans hE134) (by omega))⟩
            | true =>
              refine WL.eql rfl rfl rfl rfl hc124 ?_
              have hp124 := beq_iff_eq.1 hc124
              refine WL.pick_f rfl rfl rfl rfl ?_
              refine WL.assign rfl rfl rfl ?_
              refine WL.done' ?_ (fun _ _ h => h)
              refine WC.cond_t rfl ?_
              refine WC.seqk ?_
              refine WC.weaken (r' := [(1, .int .i64 mn), (2, .int .i64 mx), (3, .pointer (some ⟨b1, 0, none⟩)), (6, .pointer (some ⟨b7, 0, none⟩)), (8, .bool false), (21, .bool false), (40, .bool false), (49, .bool true)]) (subReg_cons rfl (subReg_cons rfl (subReg_cons rfl (subReg_cons rfl (subReg_cons rfl (subReg_cons rfl (subReg_cons rfl (subReg_cons rfl (subReg_nil _))))))))) ?_
              refine WC.region ?_
              refine WL.build (l := [.int .u8 1, .int .u64 0, .int .u64 0, .int .u64 0, .int .u64 0, .int .i64 0, .int .i64 0, .slice none 0 0]) rfl rfl Ty.zero29 Ty.st29 ⟨⟨rfl, rfl⟩, (by kernel_rfl)⟩ ?_
              have hn175 : NodeL _ w70 [.int .u8 1, .int .u64 0, .int .u64 0, .int .u64 0, .int .u64 0, .int .i64 0, .int .i64 0, .slice none 0 0] (Nd.mk 1 Nd.zero 0 0 ([])) := NodeL.shut (k := 1) (s := Nd.zero) (mn := 0) (mx := 0) (sl := .slice none 0 0) (ts := []) (NodesV.nil (fun _ => False) _ none 0)
              have hn175 := hn175.lt
              have h178 := ((hR10.ext hE16).ext hE69)
              refine WL.store_box rfl rfl rfl h178 Ty.agg29 rfl rfl (fun w179 hB177 hR176 => ?_)
              have hzhB177 := hB177.size
              refine WL.done' ?_ (fun _ _ h => h)
              refine WC.ret (fun a_ ha => ?_)
              refine ret_block ?_
              refine ret_then ?_
              exact bodyPost_cell (l := [.int .u8 1, .int .u64 0, .int .u64 0, .int .u64 0, .int .u64 0, .int .i64 0, .int .i64 0, .slice none 0 0]) rfl ha rfl Ty.agg29 hR176 ⟨_, rfl, (by simp only [Nd.times, hc13, hc14, hc18, hc71, hc123, hc124, cond_true, cond_false, Bool.not_true, Bool.not_false, Bool.or_true, Bool.or_false, Bool.and_true, Bool.and_false, Bool.false_and]; exact ((hn175.but hB177 (by intro h1; first | omega | ((try dsimp only at h1); (repeat' first | (guard_hyp h1 : _ ∨ _; refine Or.elim h1 (fun h1 => ?_) (fun h1 => ?_)) | (guard_hyp h1 : _ ∧ _; have hx := h1.2; replace h1 := h1.1)) <;> first | contradiction | omega))).dom (by intro k hk; (try dsimp only at hk); first | omega | exact hk.1.elim))), (hB177.onto (((hE5.trans hE11).trans hE16).trans hE69) (by omega))⟩
          | true =>
            refine WL.eql rfl rfl rfl rfl hc123 ?_
            have hp123 := beq_iff_eq.1 hc123
            refine WL.move rfl rfl rfl ?_
            refine WL.move rfl rfl rfl ?_
            cases hc174 : decide ((0 : Int) < mn) with
            | false =>
              refine WL.gtr rfl rfl rfl rfl hc174 ?_
              have hp174 := of_decide_eq_false hc174
              refine WL.pick_t rfl rfl rfl rfl ?_
              refine WL.assign rfl rfl rfl ?_
              refine WL.done' ?_ (fun _ _ h => h)
              refine WC.cond_f rfl ?_
              refine WC.seqk ?_
              refine WC.weaken (r' := [(1, .int .i64 mn), (2, .int .i64 mx), (3, .pointer (some ⟨b1, 0, none⟩)), (6, .pointer (some ⟨b7, 0, none⟩)), (7, .bool false), (8, .bool false), (21, .bool false), (40, .bool false)]) (subReg_cons rfl (subReg_cons rfl (subReg_cons rfl (subReg_cons rfl (subReg_cons rfl (subReg_cons rfl (subReg_cons rfl (subReg_cons rfl (subReg_nil _))))))))) ?_
              refine WC.region ?_
              refine WL.move rfl rfl rfl ?_
              refine WL.move rfl rfl rfl ?_
              refine WL.fieldAddr rfl rfl Ty.fld29_0 rfl ?_
              refine WL.load_fld rfl rfl Ty.flat5 rfl h122 rfl ?_
              refine WL.eql rfl rfl rfl rfl hc123 ?_
              refine WL.pick_f rfl rfl rfl rfl ?_
              refine WL.move rfl rfl rfl ?_
              refine WL.pass rfl rfl ?_
              refine WL.pass rfl rfl ?_
              refine WL.pass rfl rfl ?_
              refine WL.pick_t rfl rfl rfl rfl ?_
              refine WL.assign rfl rfl rfl ?_
              refine WL.done' ?_ (fun _ _ h => h)
              refine WC.cond_t rfl ?_
              refine WC.seqk ?_
              refine WC.weaken (r' := [(1, .int .i64 mn), (2, .int .i64 mx), (3, .pointer (some ⟨b1, 0, none⟩)), (6, .pointer (some ⟨b7, 0, none⟩)), (8, .bool false), (21, .bool false), (40, .bool false), (49, .bool true)]) (subReg_cons rfl (subReg_cons rfl (subReg_cons rfl (subReg_cons rfl (subReg_cons rfl (subReg_cons rfl (subReg_cons rfl (subReg_cons rfl (subReg_nil _))))))))) ?_
              refine WC.region ?_
              refine WL.build (l := [.int .u8 1, .int .u64 0, .int .u64 0, .int .u64 0, .int .u64 0, .int .i64 0, .int .i64 0, .slice none 0 0]) rfl rfl Ty.zero29 Ty.st29 ⟨⟨rfl, rfl⟩, (by kernel_rfl)⟩ ?_
              have hn175 : NodeL _ w70 [.int .u8 1, .int .u64 0, .int .u64 0, .int .u64 0, .int .u64 0, .int .i64 0, .int .i64 0, .slice none 0 0] (Nd.mk 1 Nd.zero 0 0 ([])) := NodeL.shut (k := 1) (s := Nd.zero) (mn := 0) (mx := 0) (sl := .slice none 0 0) (ts := []) (NodesV.nil (fun _ => False) _ none 0)
              have hn175 := hn175.lt
              have h178 := ((hR10.ext hE16).ext hE69)
              refine WL.store_box rfl rfl rfl h178 Ty.agg29 rfl rfl (fun w179 hB177 hR176 => ?_)
              have hzhB177 := hB177.size
              refine WL.done' ?_ (fun _ _ h => h)
              refine WC.ret (fun a_ ha => ?_)
              refine ret_block ?_
              refine ret_then ?_
              exact bodyPost_cell (l := [.int .u8 1, .int .u64 0, .int .u64 0, .int .u64 0, .int .u64 0, .int .i64 0, .int .i64 0, .slice none 0 0]) rfl ha rfl Ty.agg29 hR176 ⟨_, rfl, (by simp only [Nd.times, hc13, hc14, hc18, hc71, hc123, hc174, cond_true, cond_false, Bool.not_true, Bool.not_false, Bool.or_true, Bool.true_or, Bool.or_false, Bool.and_true, Bool.and_false, Bool.false_and]; exact ((hn175.but hB177 (by intro h1; first | omega | ((try dsimp only at h1); (repeat' first | (guard_hyp h1 : _ ∨ _; refine Or.elim h1 (fun h1 => ?_) (fun h1 => ?_)) | (guard_hyp h1 : _ ∧ _; have hx := h1.2; replace h1 := h1.1)) <;> first | contradiction | omega))).dom (by intro k hk; (try dsimp only at hk); first | omega | exact hk.1.elim))), (hB177.onto (((hE5.trans hE11).trans hE16).trans hE69) (by omega))⟩
            | true =>
              refine WL.gtr rfl rfl rfl rfl hc174 ?_
              have hp174 := of_decide_eq_true hc174
              refine WL.pick_t rfl rfl rfl rfl ?_
              refine WL.assign rfl rfl rfl ?_
              refine WL.done' ?_ (fun _ _ h => h)
              refine WC.cond_t rfl ?_
              refine WC.seqk ?_
              refine WC.weaken (r' := [(1, .int .i64 mn), (2, .int .i64 mx), (3, .pointer (some ⟨b1, 0, none⟩)), (6, .pointer (some ⟨b7, 0, none⟩)), (7, .bool false), (8, .bool false), (21, .bool false), (40, .bool true)]) (subReg_cons rfl (subReg_cons rfl (subReg_cons rfl (subReg_cons rfl (subReg_cons rfl (subReg_cons rfl (subReg_cons rfl (subReg_cons rfl (subReg_nil _))))))))) ?_
              refine WC.region ?_
              refine WL.build0 (l := [.int .u8 0, .int .u64 0, .int .u64 0, .int .u64 0, .int .u64 0, .int .i64 0, .int .i64 0, .slice none 0 0]) rfl rfl Ty.zero29 Ty.agg29 rfl Ty.bz29 ?_
              have hn225 : NodeL _ w70 [.int .u8 0, .int .u64 0, .int .u64 0, .int .u64 0, .int .u64 0, .int .i64 0, .int .i64 0, .slice none 0 0] (Nd.mk 0 Nd.zero 0 0 ([])) := NodeL.shut (k := 0) (s := Nd.zero) (mn := 0) (mx := 0) (sl := .slice none 0 0) (ts := []) (NodesV.nil (fun _ => False) _ none 0)
              have hn225 := hn225.lt
              have h228 := ((hR10.ext hE16).ext hE69)
              refine WL.store_box rfl rfl rfl h228 Ty.agg29 rfl rfl (fun w229 hB227 hR226 => ?_)
              have hzhB227 := hB227.size
              refine WL.done' ?_ (fun _ _ h => h)
              refine WC.ret (fun a_ ha => ?_)
              refine ret_block ?_
              refine ret_then ?_
              exact bodyPost_cell (l := [.int .u8 0, .int .u64 0, .int .u64 0, .int .u64 0, .int .u64 0, .int .i64 0, .int .i64 0, .slice none 0 0]) rfl ha rfl Ty.agg29 hR226 ⟨_, rfl, (by simp only [Nd.times, hc13, hc14, hc18, hc71, hc123, hc174, cond_true, cond_false, Bool.not_true, Bool.not_false, Bool.or_true, Bool.true_or, Bool.or_false, Bool.and_true, Bool.and_false, Bool.false_and]; exact ((hn225.but hB227 (by intro h1; first | omega | ((try dsimp only at h1); (repeat' first | (guard_hyp h1 : _ ∨ _; refine Or.elim h1 (fun h1 => ?_) (fun h1 => ?_)) | (guard_hyp h1 : _ ∧ _; have hx := h1.2; replace h1 := h1.1)) <;> first | contradiction | omega))).dom (by intro k hk; (try dsimp only at hk); first | omega | exact hk.1.elim))), (hB227.onto (((hE5.trans hE11).trans hE16).trans hE69) (by omega))⟩
    | true =>
      refine WL.eql rfl rfl rfl rfl hc14 ?_
      have hp14 := beq_iff_eq.1 hc14
      refine WL.move rfl rfl rfl ?_
      refine WL.move rfl rfl rfl ?_
      cases hc65 : ((mx : Int) == 1) with
      | false =>
        refine WL.eql rfl rfl rfl rfl hc65 ?_
        have hp65 := beq_eq_false_iff_ne.1 hc65
        refine WL.pick_t rfl rfl rfl rfl ?_
        refine WL.assign rfl rfl rfl ?_
        refine WL.assign rfl rfl rfl ?_
        refine WL.done' ?_ (fun _ _ h => h)
        refine WC.seqk ?_
        refine WC.block ?_
        refine WC.seqk ?_
        refine WC.weaken (r' := [(1, .int .i64 mn), (2, .int .i64 mx), (3, .pointer (some ⟨b1, 0, none⟩)), (6, .pointer (some ⟨b7, 0, none⟩)), (7, .bool false), (8, .bool false)]) (subReg_cons rfl (subReg_cons rfl (subReg_cons rfl (subReg_cons rfl (subReg_cons rfl (subReg_cons rfl (subReg_nil _))))))) ?_
        refine WC.region ?_
        refine WL.load_box rfl rfl rfl (hR4.ext hE11) Ty.agg29 ?_
        have h66 := ((hT.ext hE5).ext hE11)
        refine WL.call rfl rfl rfl Ty.ent34 (good_ok _ _ _ _ h66) ?_
        rintro _ w68 ⟨rfl, hE67⟩
        have hzhE67 := hE67.size
        refine ⟨_, rfl, ?_⟩
        cases hc69 : Nd.good T with
        | false =>
          refine WL.not rfl rfl rfl ?_
          refine WL.move rfl rfl rfl ?_
          refine WL.pass rfl rfl ?_
          refine WL.pass rfl rfl ?_
          refine WL.pass rfl rfl ?_
          refine WL.pass rfl rfl ?_
          refine WL.pass rfl rfl ?_
          refine WL.pass rfl rfl ?_
          refine WL.pass rfl rfl ?_
          refine WL.pass rfl rfl ?_
          refine WL.pass rfl rfl ?_
          refine WL.pass rfl rfl ?_
          refine WL.pass rfl rfl ?_
          refine WL.pass rfl rfl ?_
          refine WL.pick_t rfl rfl rfl rfl ?_
          refine WL.assign rfl rfl rfl ?_
          refine WL.done' ?_ (fun _ _ h => h)
          refine WC.cond_t rfl ?_
          refine WC.seqk ?_
          refine WC.weaken (r' := [(1, .int .i64 mn), (2, .int .i64 mx), (3, .pointer (some ⟨b1, 0, none⟩)), (6, .pointer (some ⟨b7, 0, none⟩)), (7, .bool false), (8, .bool false), (21, .bool true)]) (subReg_cons rfl (subReg_cons rfl (subReg_cons rfl (subReg_cons rfl (subReg_cons rfl (subReg_cons rfl (subReg_cons rfl (subReg_nil _)))))))) ?_
          refine WC.region ?_
          refine WL.build0 (l := [.int .u8 0, .int .u64 0, .int .u64 0, .int .u64 0, .int .u64 0, .int .i64 0, .int .i64 0, .slice none 0 0]) rfl rfl Ty.zero29 Ty.agg29 rfl Ty.bz29 ?_
          have hn70 : NodeL _ w68 [.int .u8 0, .int .u64 0, .int .u64 0, .int .u64 0, .int .u64 0, .int .i64 0, .int .i64 0, .slice none 0 0] (Nd.mk 0 Nd.zero 0 0 ([])) := NodeL.shut (k := 0) (s := Nd.zero) (mn := 0) (mx := 0) (sl := .slice none 0 0) (ts := []) (NodesV.nil (fun _ => False) _ none 0)
          have hn70 := hn70.lt
          refine WL.store_box rfl rfl rfl (hR10.ext hE67) Ty.agg29 rfl rfl (fun w73 hB72 hR71 => ?_)
          have hzhB72 := hB72.size
          refine WL.done' ?_ (fun _ _ h => h)
          refine WC.ret (fun a_ ha => ?_)
          refine ret_block ?_
          refine ret_then ?_
          exact bodyPost_cell (l := [.int .u8 0, .int .u64 0, .int .u64 0, .int .u64 0, .int .u64 0, .int .i64 0, .int .i64 0, .slice none 0 0]) rfl ha rfl Ty.agg29 hR71 ⟨_, rfl, (by simp only [Nd.times, hc13, hc14, hc65, hc69, cond_true, cond_false, Bool.not_false, Bool.true_or, Bool.false_or, Bool.and_true, Bool.true_and, Bool.and_false, Bool.false_and]; exact ((hn70.but hB72 (by intro h1; first | omega | ((try dsimp only at h1); (repeat' first | (guard_hyp h1 : _ ∨ _; refine Or.elim h1 (fun h1 => ?_) (fun h1 => ?_)) | (guard_hyp h1 : _ ∧ _; have hx := h1.2; replace h1 := h1.1)) <;> first | contradiction | omega))).dom (by intro k hk; (try dsimp only at hk); first | omega | exact hk.1.elim))), (hB72.onto ((hE5.trans hE11).trans hE67) (by omega))⟩
        | true =>
          refine WL.not rfl rfl rfl ?_
          refine WL.move rfl rfl rfl ?_
          refine WL.move rfl rfl rfl ?_
          refine WL.not rfl rfl rfl ?_
          refine WL.move rfl rfl rfl ?_
          refine WL.move rfl rfl rfl ?_
          refine WL.not rfl rfl rfl ?_
          refine WL.pick_t rfl rfl rfl rfl ?_
          refine WL.move rfl rfl rfl ?_
          refine WL.move rfl rfl rfl ?_
          refine WL.move rfl rfl rfl ?_
          refine WL.call rfl rfl rfl Ty.ent40 (bounds_ok mn mx _) ?_
          rintro _ w121 ⟨rfl, hE120⟩
          have hzhE120 := hE120.size
          refine ⟨_, rfl, ?_⟩
          cases hc122 : Nd.bounds mn mx with
          | false =>
            refine WL.not rfl rfl rfl ?_
            refine WL.pick_t rfl rfl rfl rfl ?_
            refine WL.pick_f rfl rfl rfl rfl ?_
            refine WL.assign rfl rfl rfl ?_
            refine WL.done' ?_ (fun _ _ h => h)
            refine WC.cond_t rfl ?_
            refine WC.seqk ?_
            refine WC.weaken (r' := [(1, .int .i64 mn), (2, .int .i64 mx), (3, .pointer (some ⟨b1, 0, none⟩)), (6, .pointer (some ⟨b7, 0, none⟩)), (7, .bool false), (8, .bool false), (21, .bool true)]) (subReg_cons rfl (subReg_cons rfl (subReg_cons rfl (subReg_cons rfl (subReg_cons rfl (subReg_cons rfl (subReg_cons rfl (subReg_nil _)))))))) ?_
            refine WC.region ?_
            refine WL.build0 (l := [.int .u8 0, .int .u64 0, .int .u64 0, .int .u64 0, .int .u64 0, .int .i64 0, .int .i64 0, .slice none 0 0]) rfl rfl Ty.zero29 Ty.agg29 rfl Ty.bz29 ?_
            have hn123 : NodeL _ w121 [.int .u8 0, .int .u64 0, .int .u64 0, .int .u64 0, .int .u64 0, .int .i64 0, .int .i64 0, .slice none 0 0] (Nd.mk 0 Nd.zero 0 0 ([])) := NodeL.shut (k := 0) (s := Nd.zero) (mn := 0) (mx := 0) (sl := .slice none 0 0) (ts := []) (NodesV.nil (fun _ => False) _ none 0)
            have hn123 := hn123.lt
            have h126 := ((hR10.ext hE67).ext hE120)
            refine WL.store_box rfl rfl rfl h126 Ty.agg29 rfl rfl (fun w127 hB125 hR124 => ?_)
            have hzhB125 := hB125.size
            refine WL.done' ?_ (fun _ _ h => h)
            refine WC.ret (fun a_ ha => ?_)
            refine ret_block ?_
            refine ret_then ?_
            exact bodyPost_cell (l := [.int .u8 0, .int .u64 0, .int .u64 0, .int .u64 0, .int .u64 0, .int .i64 0, .int .i64 0, .slice none 0 0]) rfl ha rfl Ty.agg29 hR124 ⟨_, rfl, (by simp only [Nd.times, hc13, hc14, hc65, hc69, hc122, cond_true, cond_false, Bool.not_true, Bool.not_false, Bool.or_true, Bool.false_or, Bool.and_true, Bool.and_false, Bool.false_and]; exact ((hn123.but hB125 (by intro h1; first | omega | ((try dsimp only at h1); (repeat' first | (guard_hyp h1 : _ ∨ _; refine Or.elim h1 (fun h1 => ?_) (fun h1 => ?_)) | (guard_hyp h1 : _ ∧ _; have hx := h1.2; replace h1 := h1.1)) <;> first | contradiction | omega))).dom (by intro k hk; (try dsimp only at hk); first | omega | exact hk.1.elim))), (hB125.onto (((hE5.trans hE11).trans hE67).trans hE120) (by omega))⟩
          | true =>
            refine WL.not rfl rfl rfl ?_
            refine WL.pick_t rfl rfl rfl rfl ?_
            refine WL.pick_f rfl rfl rfl rfl ?_
            refine WL.assign rfl rfl rfl ?_
            refine WL.done' ?_ (fun _ _ h => h)
            refine WC.cond_f rfl ?_
            refine WC.seqk ?_
            refine WC.weaken (r' := [(1, .int .i64 mn), (2, .int .i64 mx), (3, .pointer (some ⟨b1, 0, none⟩)), (6, .pointer (some ⟨b7, 0, none⟩)), (7, .bool false), (8, .bool false), (21, .bool false)]) (subReg_cons rfl (subReg_cons rfl (subReg_cons rfl (subReg_cons rfl (subReg_cons rfl (subReg_cons rfl (subReg_cons rfl (subReg_nil _)))))))) ?_
            refine WC.region ?_
            refine WL.fieldAddr rfl rfl Ty.fld29_0 rfl ?_
            have h173 := (((hR4.ext hE11).ext hE67).ext hE120)
            refine WL.load_fld rfl rfl Ty.flat5 rfl h173 rfl ?_
            cases hc174 : ((T.kind : Int) == 0) with
            | false =>
              refine WL.eql rfl rfl rfl rfl hc174 ?_
              have hp174 := beq_eq_false_iff_ne.1 hc174
              refine WL.move rfl rfl rfl ?_
              refine WL.pass rfl rfl ?_
              refine WL.pass rfl rfl ?_
              refine WL.pick_f rfl rfl rfl rfl ?_
              refine WL.assign rfl rfl rfl ?_
              refine WL.done' ?_ (fun _ _ h => h)
              refine WC.cond_f rfl ?_
              refine WC.seqk ?_
              refine WC.weaken (r' := [(1, .int .i64 mn), (2, .int .i64 mx), (3, .pointer (some ⟨b1, 0, none⟩)), (6, .pointer (some ⟨b7, 0, none⟩)), (7, .bool false), (8, .bool false), (21, .bool false), (40, .bool false)]) (subReg_cons rfl (subReg_cons rfl (subReg_cons rfl (subReg_cons rfl (subReg_cons rfl (subReg_cons rfl (subReg_cons rfl (subReg_cons rfl (subReg_nil _))))))))) ?_
              refine WC.region ?_
              refine WL.move rfl rfl rfl ?_
              refine WL.move rfl rfl rfl ?_
              refine WL.fieldAddr rfl rfl Ty.fld29_0 rfl ?_
              refine WL.load_fld rfl rfl Ty.flat5 rfl h173 rfl ?_
              refine WL.eql rfl rfl rfl rfl hc174 ?_
              refine WL.pick_f rfl rfl rfl rfl ?_
              refine WL.move rfl rfl rfl ?_
              refine WL.fieldAddr rfl rfl Ty.fld29_0 rfl ?_
              refine WL.load_fld rfl rfl Ty.flat5 rfl h173 rfl ?_
              cases hc175 : ((T.kind : Int) == 1) with
              | false =>
                refine WL.eql rfl rfl rfl rfl hc175 ?_
                have hp175 := beq_eq_false_iff_ne.1 hc175
                refine WL.pick_f rfl rfl rfl rfl ?_
                refine WL.assign rfl rfl rfl ?_
                refine WL.done' ?_ (fun _ _ h => h)
                refine WC.cond_f rfl ?_
                refine WC.seqk ?_
                refine WC.weaken (r' := [(1, .int .i64 mn), (2, .int .i64 mx), (3, .pointer (some ⟨b1, 0, none⟩)), (6, .pointer (some ⟨b7, 0, none⟩)), (8, .bool false), (21, .bool false), (40, .bool false), (49, .bool false)]) (subReg_cons rfl (subReg_cons rfl (subReg_cons rfl (subReg_cons rfl (subReg_cons rfl (subReg_cons rfl (subReg_cons rfl (subReg_cons rfl (subReg_nil _))))))))) ?_
                refine WC.region ?_
                refine WL.move rfl rfl rfl ?_
                refine WL.assign rfl rfl rfl ?_
                refine WL.done' ?_ (fun _ _ h => h)
                refine WC.cond_f rfl ?_
                refine WC.skip'' ?_ (fun _ _ h => h)
                refine WC.seqk ?_
                refine WC.region ?_
                refine WL.move rfl rfl rfl ?_
                refine WL.move rfl rfl rfl ?_
                refine WL.load_box rfl rfl rfl h173 Ty.agg29 ?_
                have h176 := ((h66.ext hE67).ext hE120)
                refine WL.buildSlice (vs := [.agg #[.int .u8 T.kind, .int .u64 T.set.a, .int .u64 T.set.b, .int .u64 T.set.c, .int .u64 T.set.d, .int .i64 T.least, .int .i64 T.most, .slice a T.subs.length cap]]) (cells := [.int .u8 T.kind, .int .u64 T.set.a, .int .u64 T.set.b, .int .u64 T.set.c, .int .u64 T.set.d, .int .i64 T.least, .int .i64 T.most, .slice a T.subs.length cap]) rfl rfl Ty.slice27 Ty.zero29 rfl rfl rfl rfl rfl rfl (fun b177 w182 hb178 hE181 hs179 hR180 => ?_)
                have hts177 := (NodesV.lit (n := 1) (ts := [T]) hR180 (RowsL.cons (h176.ext hE181) (RowsL.nil' _)) rfl rfl (by decide)).lt
                refine WL.build (l := [.int .u8 5, .int .u64 0, .int .u64 0, .int .u64 0, .int .u64 0, .int .i64 mn, .int .i64 mx, .slice (some ⟨b177, 0, none⟩) 1 1]) rfl rfl Ty.zero29 Ty.st29 ⟨⟨rfl, rfl⟩, (by kernel_rfl)⟩ ?_
                have hn183 : NodeL _ w182 [.int .u8 5, .int .u64 0, .int .u64 0, .int .u64 0, .int .u64 0, .int .i64 mn, .int .i64 mx, .slice (some ⟨b177, 0, none⟩) 1 1] (Nd.mk 5 Nd.zero mn mx ([T])) := NodeL.shut (k := 5) (s := Nd.zero) (mn := mn) (mx := mx) (sl := .slice (some ⟨b177, 0, none⟩) 1 1) (ts := [T]) hts177
                have hn183 := hn183.lt
                refine WL.call rfl rfl rfl Ty.ent42 (checked_ok _ _ _ _ hn183) ?_
                rintro _ w186 ⟨l184, rfl, hr184, hE185⟩
                have hzhE185 := hE185.size
                refine ⟨_, rfl, ?_⟩
                have hn184 := hr184.lt
                obtain ⟨sl184, rfl, hts184⟩ := hn184.opn
                obtain ⟨a184, cap184, rfl, hlen184, -⟩ := hts184.get
                have h189 := ((((hR10.ext hE67).ext hE120).ext hE181).ext hE185)
                refine WL.store_box rfl rfl rfl h189 Ty.agg29 rfl rfl (fun w190 hB188 hR187 => ?_)
                have hzhB188 := hB188.size
                refine WL.done' ?_ (fun _ _ h => h)
                refine WC.ret (fun a_ ha => ?_)
                exact bodyPost_cell (l := [.int .u8 ((Nd.mk 5 Nd.zero mn mx ([T])).checked).kind, .int .u64 ((Nd.mk 5 Nd.zero mn mx ([T])).checked).set.a, .int .u64 ((Nd.mk 5 Nd.zero mn mx ([T])).checked).set.b, .int .u64 ((Nd.mk 5 Nd.zero mn mx ([T])).checked).set.c, .int .u64 ((Nd.mk 5 Nd.zero mn mx ([T])).checked).set.d, .int .i64 ((Nd.mk 5 Nd.zero mn mx ([T])).checked).least, .int .i64 ((Nd.mk 5 Nd.zero mn mx ([T])).checked).most, .slice a184 ((Nd.mk 5 Nd.zero mn mx ([T])).checked).subs.length cap184]) rfl ha rfl Ty.agg29 hR187 ⟨_, rfl, (by simp only [Nd.times, hc13, hc14, hc65, hc69, hc122, hc174, hc175, cond_false, Bool.not_true, Bool.not_false, Bool.or_false, Bool.and_true, Bool.and_false, Bool.false_and]; exact ((hn184.but hB188 (by intro h1; first | omega | ((try dsimp only at h1); (repeat' first | (guard_hyp h1 : _ ∨ _; refine Or.elim h1 (fun h1 => ?_) (fun h1 => ?_)) | (guard_hyp h1 : _ ∧ _; have hx := h1.2; replace h1 := h1.1)) <;> first | contradiction | omega))).dom (by intro k hk; (try dsimp only at hk); first | omega | exact hk.1.elim))), (hB188.onto (((((hE5.trans hE11).trans hE67).trans hE120).trans hE181).trans hE185) (by omega))⟩
              | true =>
                refine WL.eql rfl rfl rfl rfl hc175 ?_
                have hp175 := beq_iff_eq.1 hc175
                refine WL.pick_f rfl rfl rfl rfl ?_
                refine WL.assign rfl rfl rfl ?_
                refine WL.done' ?_ (fun _ _ h => h)
                refine WC.cond_t rfl ?_
                refine WC.seqk ?_
                refine WC.weaken (r' := [(1, .int .i64 mn), (2, .int .i64 mx), (3, .pointer (some ⟨b1, 0, none⟩)), (6, .pointer (some ⟨b7, 0, none⟩)), (8, .bool false), (21, .bool false), (40, .bool false), (49, .bool true)]) (subReg_cons rfl (subReg_cons rfl (subReg_cons rfl (subReg_cons rfl (subReg_cons rfl (subReg_cons rfl (subReg_cons rfl (subReg_cons rfl (subReg_nil _))))))))) ?_
                refine WC.region ?_
                refine WL.build (l := [.int .u8 1, .int .u64 0, .int .u64 0, .int .u64 0, .int .u64 0, .int .i64 0, .int .i64 0, .slice none 0 0]) rfl rfl Ty.zero29 Ty.st29 ⟨⟨rfl, rfl⟩, (by kernel_rfl)⟩ ?_
                have hn226 : NodeL _ w121 [.int .u8 1, .int .u64 0, .int .u64 0, .int .u64 0, .int .u64 0, .int .i64 0, .int .i64 0, .slice none 0 0] (Nd.mk 1 Nd.zero 0 0 ([])) := NodeL.shut (k := 1) (s := Nd.zero) (mn := 0) (mx := 0) (sl := .slice none 0 0) (ts := []) (NodesV.nil (fun _ => False) _ none 0)
                have hn226 := hn226.lt
                have h229 := ((hR10.ext hE67).ext hE120)
                refine WL.store_box rfl rfl rfl h229 Ty.agg29 rfl rfl (fun w230 hB228 hR227 => ?_)
                have hzhB228 := hB228.size
                refine WL.done' ?_ (fun _ _ h => h)
                refine WC.ret (fun a_ ha => ?_)
                refine ret_block ?_
                refine ret_then ?_
                exact bodyPost_cell (l := [.int .u8 1, .int .u64 0, .int .u64 0, .int .u64 0, .int .u64 0, .int .i64 0, .int .i64 0, .slice none 0 0]) rfl ha rfl Ty.agg29 hR227 ⟨_, rfl, (by simp only [Nd.times, hc13, hc14, hc65, hc69, hc122, hc174, hc175, cond_true, cond_false, Bool.not_true, Bool.not_false, Bool.or_true, Bool.or_false, Bool.and_true, Bool.and_false, Bool.false_and]; exact ((hn226.but hB228 (by intro h1; first | omega | ((try dsimp only at h1); (repeat' first | (guard_hyp h1 : _ ∨ _; refine Or.elim h1 (fun h1 => ?_) (fun h1 => ?_)) | (guard_hyp h1 : _ ∧ _; have hx := h1.2; replace h1 := h1.1)) <;> first | contradiction | omega))).dom (by intro k hk; (try dsimp only at hk); first | omega | exact hk.1.elim))), (hB228.onto (((hE5.trans hE11).trans hE67).trans hE120) (by omega))⟩
            | true =>
              refine WL.eql rfl rfl rfl rfl hc174 ?_
              have hp174 := beq_iff_eq.1 hc174
              refine WL.move rfl rfl rfl ?_
              refine WL.move rfl rfl rfl ?_
              have hc225 : decide ((0 : Int) < mn) = true := decide_eq_true (by omega)
              refine WL.gtr rfl rfl rfl rfl hc225 ?_
              refine WL.pick_t rfl rfl rfl rfl ?_
              refine WL.assign rfl rfl rfl ?_
              refine WL.done' ?_ (fun _ _ h => h)
              refine WC.cond_t rfl ?_
              refine WC.seqk ?_
              refine WC.weaken (r' := [(1, .int .i64 mn), (2, .int .i64 mx), (3, .pointer (some ⟨b1, 0, none⟩)), (6, .pointer (some ⟨b7, 0, none⟩)), (7, .bool false), (8, .bool false), (21, .bool false), (40, .bool true)]) (subReg_cons rfl (subReg_cons rfl (subReg_cons rfl (subReg_cons rfl (subReg_cons rfl (subReg_cons rfl (subReg_cons rfl (subReg_cons rfl (subReg_nil _))))))))) ?_
              refine WC.region ?_
              refine WL.build0 (l := [.int .u8 0, .int .u64 0, .int .u64 0, .int .u64 0, .int .u64 0, .int .i64 0, .int .i64 0, .slice none 0 0]) rfl rfl Ty.zero29 Ty.agg29 rfl Ty.bz29 ?_
              have hn226 : NodeL _ w121 [.int .u8 0, .int .u64 0, .int .u64 0, .int .u64 0, .int .u64 0, .int .i64 0, .int .i64 0, .slice none 0 0] (Nd.mk 0 Nd.zero 0 0 ([])) := NodeL.shut (k := 0) (s := Nd.zero) (mn := 0) (mx := 0) (sl := .slice none 0 0) (ts := []) (NodesV.nil (fun _ => False) _ none 0)
              have hn226 := hn226.lt
              have h229 := ((hR10.ext hE67).ext hE120)
              refine WL.store_box rfl rfl rfl h229 Ty.agg29 rfl rfl (fun w230 hB228 hR227 => ?_)
              have hzhB228 := hB228.size
              refine WL.done' ?_ (fun _ _ h => h)
              refine WC.ret (fun a_ ha => ?_)
              refine ret_block ?_
              refine ret_then ?_
              exact bodyPost_cell (l := [.int .u8 0, .int .u64 0, .int .u64 0, .int .u64 0, .int .u64 0, .int .i64 0, .int .i64 0, .slice none 0 0]) rfl ha rfl Ty.agg29 hR227 ⟨_, rfl, (by simp only [Nd.times, hc13, hc14, hc65, hc69, hc122, hc174, hc225, cond_true, cond_false, Bool.not_true, Bool.not_false, Bool.or_true, Bool.true_or, Bool.or_false, Bool.and_true, Bool.and_false, Bool.false_and]; exact ((hn226.but hB228 (by intro h1; first | omega | ((try dsimp only at h1); (repeat' first | (guard_hyp h1 : _ ∨ _; refine Or.elim h1 (fun h1 => ?_) (fun h1 => ?_)) | (guard_hyp h1 : _ ∧ _; have hx := h1.2; replace h1 := h1.1)) <;> first | contradiction | omega))).dom (by intro k hk; (try dsimp only at hk); first | omega | exact hk.1.elim))), (hB228.onto (((hE5.trans hE11).trans hE67).trans hE120) (by omega))⟩
      | true =>
        refine WL.eql rfl rfl rfl rfl hc65 ?_
        have hp65 := beq_iff_eq.1 hc65
        refine WL.pick_t rfl rfl rfl rfl ?_
        refine WL.assign rfl rfl rfl ?_
        refine WL.assign rfl rfl rfl ?_
        refine WL.done' ?_ (fun _ _ h => h)
        refine WC.seqk ?_
        refine WC.block ?_
        refine WC.seqk ?_
        refine WC.weaken (r' := [(1, .int .i64 mn), (2, .int .i64 mx), (3, .pointer (some ⟨b1, 0, none⟩)), (6, .pointer (some ⟨b7, 0, none⟩)), (7, .bool false), (8, .bool true)]) (subReg_cons rfl (subReg_cons rfl (subReg_cons rfl (subReg_cons rfl (subReg_cons rfl (subReg_cons rfl (subReg_nil _))))))) ?_
        refine WC.region ?_
        refine WL.load_box rfl rfl rfl (hR4.ext hE11) Ty.agg29 ?_
        have h116 := ((hT.ext hE5).ext hE11)
        refine WL.call rfl rfl rfl Ty.ent34 (good_ok _ _ _ _ h116) ?_
        rintro _ w118 ⟨rfl, hE117⟩
        have hzhE117 := hE117.size
        refine ⟨_, rfl, ?_⟩
        cases hc119 : Nd.good T with
        | false =>
          refine WL.not rfl rfl rfl ?_
          refine WL.move rfl rfl rfl ?_
          refine WL.pass rfl rfl ?_
          refine WL.pass rfl rfl ?_
          refine WL.pass rfl rfl ?_
          refine WL.pass rfl rfl ?_
          refine WL.pass rfl rfl ?_
          refine WL.pass rfl rfl ?_
          refine WL.pass rfl rfl ?_
          refine WL.pass rfl rfl ?_
          refine WL.pass rfl rfl ?_
          refine WL.pass rfl rfl ?_
          refine WL.pass rfl rfl ?_
          refine WL.pass rfl rfl ?_
          refine WL.pick_t rfl rfl rfl rfl ?_
          refine WL.assign rfl rfl rfl ?_
          refine WL.done' ?_ (fun _ _ h => h)
          refine WC.cond_t rfl ?_
          refine WC.seqk ?_
          refine WC.weaken (r' := [(1, .int .i64 mn), (2, .int .i64 mx), (3, .pointer (some ⟨b1, 0, none⟩)), (6, .pointer (some ⟨b7, 0, none⟩)), (7, .bool false), (8, .bool true), (21, .bool true)]) (subReg_cons rfl (subReg_cons rfl (subReg_cons rfl (subReg_cons rfl (subReg_cons rfl (subReg_cons rfl (subReg_cons rfl (subReg_nil _)))))))) ?_
          refine WC.region ?_
          refine WL.build0 (l := [.int .u8 0, .int .u64 0, .int .u64 0, .int .u64 0, .int .u64 0, .int .i64 0, .int .i64 0, .slice none 0 0]) rfl rfl Ty.zero29 Ty.agg29 rfl Ty.bz29 ?_
          have hn120 : NodeL _ w118 [.int .u8 0, .int .u64 0, .int .u64 0, .int .u64 0, .int .u64 0, .int .i64 0, .int .i64 0, .slice none 0 0] (Nd.mk 0 Nd.zero 0 0 ([])) := NodeL.shut (k := 0) (s := Nd.zero) (mn := 0) (mx := 0) (sl := .slice none 0 0) (ts := []) (NodesV.nil (fun _ => False) _ none 0)
          have hn120 := hn120.lt
          refine WL.store_box rfl rfl rfl (hR10.ext hE117) Ty.agg29 rfl rfl (fun w123 hB122 hR121 => ?_)
          have hzhB122 := hB122.size
          refine WL.done' ?_ (fun _ _ h => h)
          refine WC.ret (fun a_ ha => ?_)
          refine ret_block ?_
          refine ret_then ?_
          exact bodyPost_cell (l := [.int .u8 0, .int .u64 0, .int .u64 0, .int .u64 0, .int .u64 0, .int .i64 0, .int .i64 0, .slice none 0 0]) rfl ha rfl Ty.agg29 hR121 ⟨_, rfl, (by simp only [Nd.times, hc13, hc14, hc65, hc119, cond_true, Bool.not_true, Bool.not_false, Bool.or_false, Bool.false_or, Bool.and_true, Bool.and_false, Bool.false_and]; exact ((hn120.but hB122 (by intro h1; first | omega | ((try dsimp only at h1); (repeat' first | (guard_hyp h1 : _ ∨ _; refine Or.elim h1 (fun h1 => ?_) (fun h1 => ?_)) | (guard_hyp h1 : _ ∧ _; have hx := h1.2; replace h1 := h1.1)) <;> first | contradiction | omega))).dom (by intro k hk; (try dsimp only at hk); first | omega | exact hk.1.elim))), (hB122.onto ((hE5.trans hE11).trans hE117) (by omega))⟩
        | true =>
          refine WL.not rfl rfl rfl ?_
          refine WL.move rfl rfl rfl ?_
          refine WL.move rfl rfl rfl ?_
          refine WL.not rfl rfl rfl ?_
          refine WL.move rfl rfl rfl ?_
          refine WL.move rfl rfl rfl ?_
          refine WL.not rfl rfl rfl ?_
          refine WL.pick_t rfl rfl rfl rfl ?_
          refine WL.move rfl rfl rfl ?_
          refine WL.pass rfl rfl ?_
          refine WL.pass rfl rfl ?_
          refine WL.pass rfl rfl ?_
          refine WL.pass rfl rfl ?_
          refine WL.pick_f rfl rfl rfl rfl ?_
          refine WL.pick_f rfl rfl rfl rfl ?_
          refine WL.assign rfl rfl rfl ?_
          refine WL.done' ?_ (fun _ _ h => h)
          refine WC.cond_f rfl ?_
          refine WC.seqk ?_
          refine WC.weaken (r' := [(1, .int .i64 mn), (2, .int .i64 mx), (3, .pointer (some ⟨b1, 0, none⟩)), (6, .pointer (some ⟨b7, 0, none⟩)), (7, .bool false), (8, .bool true), (21, .bool false)]) (subReg_cons rfl (subReg_cons rfl (subReg_cons rfl (subReg_cons rfl (subReg_cons rfl (subReg_cons rfl (subReg_cons rfl (subReg_nil _)))))))) ?_
          refine WC.region ?_
          refine WL.fieldAddr rfl rfl Ty.fld29_0 rfl ?_
          have h170 := ((hR4.ext hE11).ext hE117)
          refine WL.load_fld rfl rfl Ty.flat5 rfl h170 rfl ?_
          cases hc171 : ((T.kind : Int) == 0) with
          | false =>
            refine WL.eql rfl rfl rfl rfl hc171 ?_
            have hp171 := beq_eq_false_iff_ne.1 hc171
            refine WL.move rfl rfl rfl ?_
            refine WL.pass rfl rfl ?_
            refine WL.pass rfl rfl ?_
            refine WL.pick_f rfl rfl rfl rfl ?_
            refine WL.assign rfl rfl rfl ?_
            refine WL.done' ?_ (fun _ _ h => h)
            refine WC.cond_f rfl ?_
            refine WC.seqk ?_
            refine WC.weaken (r' := [(1, .int .i64 mn), (2, .int .i64 mx), (3, .pointer (some ⟨b1, 0, none⟩)), (6, .pointer (some ⟨b7, 0, none⟩)), (7, .bool false), (8, .bool true), (21, .bool false), (40, .bool false)]) (subReg_cons rfl (subReg_cons rfl (subReg_cons rfl (subReg_cons rfl (subReg_cons rfl (subReg_cons rfl (subReg_cons rfl (subReg_cons rfl (subReg_nil _))))))))) ?_
            refine WC.region ?_
            refine WL.move rfl rfl rfl ?_
            refine WL.move rfl rfl rfl ?_
            refine WL.fieldAddr rfl rfl Ty.fld29_0 rfl ?_
            refine WL.load_fld rfl rfl Ty.flat5 rfl h170 rfl ?_
            refine WL.eql rfl rfl rfl rfl hc171 ?_
            refine WL.pick_f rfl rfl rfl rfl ?_
            refine WL.move rfl rfl rfl ?_
            refine WL.fieldAddr rfl rfl Ty.fld29_0 rfl ?_
            refine WL.load_fld rfl rfl Ty.flat5 rfl h170 rfl ?_
            cases hc172 : ((T.kind : Int) == 1) with
            | false =>
              refine WL.eql rfl rfl rfl rfl hc172 ?_
              have hp172 := beq_eq_false_iff_ne.1 hc172
              refine WL.pick_f rfl rfl rfl rfl ?_
              refine WL.assign rfl rfl rfl ?_
              refine WL.done' ?_ (fun _ _ h => h)
              refine WC.cond_f rfl ?_
              refine WC.seqk ?_
              refine WC.weaken (r' := [(1, .int .i64 mn), (2, .int .i64 mx), (3, .pointer (some ⟨b1, 0, none⟩)), (6, .pointer (some ⟨b7, 0, none⟩)), (8, .bool true), (21, .bool false), (40, .bool false), (49, .bool false)]) (subReg_cons rfl (subReg_cons rfl (subReg_cons rfl (subReg_cons rfl (subReg_cons rfl (subReg_cons rfl (subReg_cons rfl (subReg_cons rfl (subReg_nil _))))))))) ?_
              refine WC.region ?_
              refine WL.move rfl rfl rfl ?_
              refine WL.assign rfl rfl rfl ?_
              refine WL.done' ?_ (fun _ _ h => h)
              refine WC.cond_t rfl ?_
              refine WC.seqk ?_
              refine WC.region ?_
              refine WL.load_box rfl rfl rfl h170 Ty.agg29 ?_
              refine WL.call rfl rfl rfl Ty.ent41 (copied_ok T _ _ _ (h116.ext hE117) (Nd.good_size (by assumption))) ?_
              rintro _ w175 ⟨l173, rfl, hr173, hE174⟩
              have hzhE174 := hE174.size
              refine ⟨_, rfl, ?_⟩
              have hn173 := hr173.lt
              obtain ⟨sl173, rfl, hts173⟩ := hn173.opn
              obtain ⟨a173, cap173, rfl, hlen173, -⟩ := hts173.get
              have h178 := ((hR10.ext hE117).ext hE174)
              refine WL.store_box rfl rfl rfl h178 Ty.agg29 rfl rfl (fun w179 hB177 hR176 => ?_)
              have hzhB177 := hB177.size
              refine WL.done' ?_ (fun _ _ h => h)
              refine WC.ret (fun a_ ha => ?_)
              refine ret_block ?_
              refine ret_then ?_
              exact bodyPost_cell (l := [.int .u8 T.kind, .int .u64 T.set.a, .int .u64 T.set.b, .int .u64 T.set.c, .int .u64 T.set.d, .int .i64 T.least, .int .i64 T.most, .slice a173 T.subs.length cap173]) rfl ha rfl Ty.agg29 hR176 ⟨_, rfl, (by simp only [Nd.times, hc13, hc14, hc65, hc119, hc171, hc172, cond_true, cond_false, Bool.not_true, Bool.not_false, Bool.or_false, Bool.and_true, Bool.and_false, Bool.false_and]; exact ((hn173.but hB177 (by intro h1; first | omega | ((try dsimp only at h1); (repeat' first | (guard_hyp h1 : _ ∨ _; refine Or.elim h1 (fun h1 => ?_) (fun h1 => ?_)) | (guard_hyp h1 : _ ∧ _; have hx := h1.2; replace h1 := h1.1)) <;> first | contradiction | omega))).dom (by intro k hk; (try dsimp only at hk); first | omega | exact hk.1.elim))), (hB177.onto (((hE5.trans hE11).trans hE117).trans hE174) (by omega))⟩
            | true =>
              refine WL.eql rfl rfl rfl rfl hc172 ?_
              have hp172 := beq_iff_eq.1 hc172
              refine WL.pick_f rfl rfl rfl rfl ?_
              refine WL.assign rfl rfl rfl ?_
              refine WL.done' ?_ (fun _ _ h => h)
              refine WC.cond_t rfl ?_
              refine WC.seqk ?_
              refine WC.weaken (r' := [(1, .int .i64 mn), (2, .int .i64 mx), (3, .pointer (some ⟨b1, 0, none⟩)), (6, .pointer (some ⟨b7, 0, none⟩)), (8, .bool true), (21, .bool false), (40, .bool false), (49, .bool true)]) (subReg_cons rfl (subReg_cons rfl (subReg_cons rfl (subReg_cons rfl (subReg_cons rfl (subReg_cons rfl (subReg_cons rfl (subReg_cons rfl (subReg_nil _))))))))) ?_
              refine WC.region ?_
              refine WL.build (l := [.int .u8 1, .int .u64 0, .int .u64 0, .int .u64 0, .int .u64 0, .int .i64 0, .int .i64 0, .slice none 0 0]) rfl rfl Ty.zero29 Ty.st29 ⟨⟨rfl, rfl⟩, (by kernel_rfl)⟩ ?_
              have hn223 : NodeL _ w118 [.int .u8 1, .int .u64 0, .int .u64 0, .int .u64 0, .int .u64 0, .int .i64 0, .int .i64 0, .slice none 0 0] (Nd.mk 1 Nd.zero 0 0 ([])) := NodeL.shut (k := 1) (s := Nd.zero) (mn := 0) (mx := 0) (sl := .slice none 0 0) (ts := []) (NodesV.nil (fun _ => False) _ none 0)
              have hn223 := hn223.lt
              refine WL.store_box rfl rfl rfl (hR10.ext hE117) Ty.agg29 rfl rfl (fun w226 hB225 hR224 => ?_)
              have hzhB225 := hB225.size
              refine WL.done' ?_ (fun _ _ h => h)
              refine WC.ret (fun a_ ha => ?_)
              refine ret_block ?_
              refine ret_then ?_
              exact bodyPost_cell (l := [.int .u8 1, .int .u64 0, .int .u64 0, .int .u64 0, .int .u64 0, .int .i64 0, .int .i64 0, .slice none 0 0]) rfl ha rfl Ty.agg29 hR224 ⟨_, rfl, (by simp only [Nd.times, hc13, hc14, hc65, hc119, hc171, hc172, cond_true, cond_false, Bool.not_true, Bool.not_false, Bool.or_true, Bool.or_false, Bool.and_true, Bool.and_false, Bool.false_and]; exact ((hn223.but hB225 (by intro h1; first | omega | ((try dsimp only at h1); (repeat' first | (guard_hyp h1 : _ ∨ _; refine Or.elim h1 (fun h1 => ?_) (fun h1 => ?_)) | (guard_hyp h1 : _ ∧ _; have hx := h1.2; replace h1 := h1.1)) <;> first | contradiction | omega))).dom (by intro k hk; (try dsimp only at hk); first | omega | exact hk.1.elim))), (hB225.onto ((hE5.trans hE11).trans hE117) (by omega))⟩
          | true =>
            refine WL.eql rfl rfl rfl rfl hc171 ?_
            have hp171 := beq_iff_eq.1 hc171
            refine WL.move rfl rfl rfl ?_
            refine WL.move rfl rfl rfl ?_
            have hc222 : decide ((0 : Int) < mn) = true := decide_eq_true (by omega)
            refine WL.gtr rfl rfl rfl rfl hc222 ?_
            refine WL.pick_t rfl rfl rfl rfl ?_
            refine WL.assign rfl rfl rfl ?_
            refine WL.done' ?_ (fun _ _ h => h)
            refine WC.cond_t rfl ?_
            refine WC.seqk ?_
            refine WC.weaken (r' := [(1, .int .i64 mn), (2, .int .i64 mx), (3, .pointer (some ⟨b1, 0, none⟩)), (6, .pointer (some ⟨b7, 0, none⟩)), (7, .bool false), (8, .bool true), (21, .bool false), (40, .bool true)]) (subReg_cons rfl (subReg_cons rfl (subReg_cons rfl (subReg_cons rfl (subReg_cons rfl (subReg_cons rfl (subReg_cons rfl (subReg_cons rfl (subReg_nil _))))))))) ?_
            refine WC.region ?_
            refine WL.build0 (l := [.int .u8 0, .int .u64 0, .int .u64 0, .int .u64 0, .int .u64 0, .int .i64 0, .int .i64 0, .slice none 0 0]) rfl rfl Ty.zero29 Ty.agg29 rfl Ty.bz29 ?_
            have hn223 : NodeL _ w118 [.int .u8 0, .int .u64 0, .int .u64 0, .int .u64 0, .int .u64 0, .int .i64 0, .int .i64 0, .slice none 0 0] (Nd.mk 0 Nd.zero 0 0 ([])) := NodeL.shut (k := 0) (s := Nd.zero) (mn := 0) (mx := 0) (sl := .slice none 0 0) (ts := []) (NodesV.nil (fun _ => False) _ none 0)
            have hn223 := hn223.lt
            refine WL.store_box rfl rfl rfl (hR10.ext hE117) Ty.agg29 rfl rfl (fun w226 hB225 hR224 => ?_)
            have hzhB225 := hB225.size
            refine WL.done' ?_ (fun _ _ h => h)
            refine WC.ret (fun a_ ha => ?_)
            refine ret_block ?_
            refine ret_then ?_
            exact bodyPost_cell (l := [.int .u8 0, .int .u64 0, .int .u64 0, .int .u64 0, .int .u64 0, .int .i64 0, .int .i64 0, .slice none 0 0]) rfl ha rfl Ty.agg29 hR224 ⟨_, rfl, (by simp only [Nd.times, hc13, hc14, hc65, hc119, hc171, hc222, cond_true, cond_false, Bool.not_true, Bool.not_false, Bool.or_true, Bool.true_or, Bool.or_false, Bool.and_true, Bool.and_false, Bool.false_and]; exact ((hn223.but hB225 (by intro h1; first | omega | ((try dsimp only at h1); (repeat' first | (guard_hyp h1 : _ ∨ _; refine Or.elim h1 (fun h1 => ?_) (fun h1 => ?_)) | (guard_hyp h1 : _ ∧ _; have hx := h1.2; replace h1 := h1.1)) <;> first | contradiction | omega))).dom (by intro k hk; (try dsimp only at hk); first | omega | exact hk.1.elim))), (hB225.onto ((hE5.trans hE11).trans hE117) (by omega))⟩
  | true =>
    refine WL.eql rfl rfl rfl rfl hc13 ?_
    have hp13 := beq_iff_eq.1 hc13
    refine WL.move rfl rfl rfl ?_
    refine WL.move rfl rfl rfl ?_
    cases hc64 : ((mx : Int) == 0) with
    | false =>
      refine WL.eql rfl rfl rfl rfl hc64 ?_
      have hp64 := beq_eq_false_iff_ne.1 hc64
      refine WL.pick_t rfl rfl rfl rfl ?_
      refine WL.move rfl rfl rfl ?_
      have hc65 : ((mn : Int) == 1) = false := beq_eq_false_iff_ne.2 (by omega)
      refine WL.eql rfl rfl rfl rfl hc65 ?_
      refine WL.move rfl rfl rfl ?_
      refine WL.pass rfl rfl ?_
      refine WL.pass rfl rfl ?_
      refine WL.pick_f rfl rfl rfl rfl ?_
      refine WL.assign rfl rfl rfl ?_
      refine WL.assign rfl rfl rfl ?_
      refine WL.done' ?_ (fun _ _ h => h)
      refine WC.seqk ?_
      refine WC.block ?_
      refine WC.seqk ?_
      refine WC.weaken (r' := [(1, .int .i64 mn), (2, .int .i64 mx), (3, .pointer (some ⟨b1, 0, none⟩)), (6, .pointer (some ⟨b7, 0, none⟩)), (7, .bool false), (8, .bool false)]) (subReg_cons rfl (subReg_cons rfl (subReg_cons rfl (subReg_cons rfl (subReg_cons rfl (subReg_cons rfl (subReg_nil _))))))) ?_
      refine WC.region ?_
      refine WL.load_box rfl rfl rfl (hR4.ext hE11) Ty.agg29 ?_
      have h66 := ((hT.ext hE5).ext hE11)
      refine WL.call rfl rfl rfl Ty.ent34 (good_ok _ _ _ _ h66) ?_
      rintro _ w68 ⟨rfl, hE67⟩
      have hzhE67 := hE67.size
      refine ⟨_, rfl, ?_⟩
      cases hc69 : Nd.good T with
      | false =>
        refine WL.not rfl rfl rfl ?_
        refine WL.move rfl rfl rfl ?_
        refine WL.pass rfl rfl ?_
        refine WL.pass rfl rfl ?_
        refine WL.pass rfl rfl ?_
        refine WL.pass rfl rfl ?_
        refine WL.pass rfl rfl ?_
        refine WL.pass rfl rfl ?_
        refine WL.pass rfl rfl ?_
        refine WL.pass rfl rfl ?_
        refine WL.pass rfl rfl ?_
        refine WL.pass rfl rfl ?_
        refine WL.pass rfl rfl ?_
        refine WL.pass rfl rfl ?_
        refine WL.pick_t rfl rfl rfl rfl ?_
        refine WL.assign rfl rfl rfl ?_
        refine WL.done' ?_ (fun _ _ h => h)
        refine WC.cond_t rfl ?_
        refine WC.seqk ?_
        refine WC.weaken (r' := [(1, .int .i64 mn), (2, .int .i64 mx), (3, .pointer (some ⟨b1, 0, none⟩)), (6, .pointer (some ⟨b7, 0, none⟩)), (7, .bool false), (8, .bool false), (21, .bool true)]) (subReg_cons rfl (subReg_cons rfl (subReg_cons rfl (subReg_cons rfl (subReg_cons rfl (subReg_cons rfl (subReg_cons rfl (subReg_nil _)))))))) ?_
        refine WC.region ?_
        refine WL.build0 (l := [.int .u8 0, .int .u64 0, .int .u64 0, .int .u64 0, .int .u64 0, .int .i64 0, .int .i64 0, .slice none 0 0]) rfl rfl Ty.zero29 Ty.agg29 rfl Ty.bz29 ?_
        have hn70 : NodeL _ w68 [.int .u8 0, .int .u64 0, .int .u64 0, .int .u64 0, .int .u64 0, .int .i64 0, .int .i64 0, .slice none 0 0] (Nd.mk 0 Nd.zero 0 0 ([])) := NodeL.shut (k := 0) (s := Nd.zero) (mn := 0) (mx := 0) (sl := .slice none 0 0) (ts := []) (NodesV.nil (fun _ => False) _ none 0)
        have hn70 := hn70.lt
        refine WL.store_box rfl rfl rfl (hR10.ext hE67) Ty.agg29 rfl rfl (fun w73 hB72 hR71 => ?_)
        have hzhB72 := hB72.size
        refine WL.done' ?_ (fun _ _ h => h)
        refine WC.ret (fun a_ ha => ?_)
        refine ret_block ?_
        refine ret_then ?_
        exact bodyPost_cell (l := [.int .u8 0, .int .u64 0, .int .u64 0, .int .u64 0, .int .u64 0, .int .i64 0, .int .i64 0, .slice none 0 0]) rfl ha rfl Ty.agg29 hR71 ⟨_, rfl, (by simp only [Nd.times, hc13, hc64, hc65, hc69, cond_true, cond_false, Bool.not_false, Bool.true_or, Bool.false_or, Bool.and_true, Bool.true_and, Bool.and_false, Bool.false_and]; exact ((hn70.but hB72 (by intro h1; first | omega | ((try dsimp only at h1); (repeat' first | (guard_hyp h1 : _ ∨ _; refine Or.elim h1 (fun h1 => ?_) (fun h1 => ?_)) | (guard_hyp h1 : _ ∧ _; have hx := h1.2; replace h1 := h1.1)) <;> first | contradiction | omega))).dom (by intro k hk; (try dsimp only at hk); first | omega | exact hk.1.elim))), (hB72.onto ((hE5.trans hE11).trans hE67) (by omega))⟩
      | true =>
        refine WL.not rfl rfl rfl ?_
        refine WL.move rfl rfl rfl ?_
        refine WL.move rfl rfl rfl ?_
        refine WL.not rfl rfl rfl ?_
        refine WL.move rfl rfl rfl ?_
        refine WL.move rfl rfl rfl ?_
        refine WL.not rfl rfl rfl ?_
        refine WL.pick_t rfl rfl rfl rfl ?_
        refine WL.move rfl rfl rfl ?_
        refine WL.move rfl rfl rfl ?_
        refine WL.move rfl rfl rfl ?_
        refine WL.call rfl rfl rfl Ty.ent40 (bounds_ok mn mx _) ?_
        rintro _ w121 ⟨rfl, hE120⟩
        have hzhE120 := hE120.size
        refine ⟨_, rfl, ?_⟩
        cases hc122 : Nd.bounds mn mx with
        | false =>
          refine WL.not rfl rfl rfl ?_
          refine WL.pick_t rfl rfl rfl rfl ?_
          refine WL.pick_f rfl rfl rfl rfl ?_
          refine WL.assign rfl rfl rfl ?_
          refine WL.done' ?_ (fun _ _ h => h)
          refine WC.cond_t rfl ?_
          refine WC.seqk ?_
          refine WC.weaken (r' := [(1, .int .i64 mn), (2, .int .i64 mx), (3, .pointer (some ⟨b1, 0, none⟩)), (6, .pointer (some ⟨b7, 0, none⟩)), (7, .bool false), (8, .bool false), (21, .bool true)]) (subReg_cons rfl (subReg_cons rfl (subReg_cons rfl (subReg_cons rfl (subReg_cons rfl (subReg_cons rfl (subReg_cons rfl (subReg_nil _)))))))) ?_
          refine WC.region ?_
          refine WL.build0 (l := [.int .u8 0, .int .u64 0, .int .u64 0, .int .u64 0, .int .u64 0, .int .i64 0, .int .i64 0, .slice none 0 0]) rfl rfl Ty.zero29 Ty.agg29 rfl Ty.bz29 ?_
          have hn123 : NodeL _ w121 [.int .u8 0, .int .u64 0, .int .u64 0, .int .u64 0, .int .u64 0, .int .i64 0, .int .i64 0, .slice none 0 0] (Nd.mk 0 Nd.zero 0 0 ([])) := NodeL.shut (k := 0) (s := Nd.zero) (mn := 0) (mx := 0) (sl := .slice none 0 0) (ts := []) (NodesV.nil (fun _ => False) _ none 0)
          have hn123 := hn123.lt
          have h126 := ((hR10.ext hE67).ext hE120)
          refine WL.store_box rfl rfl rfl h126 Ty.agg29 rfl rfl (fun w127 hB125 hR124 => ?_)
          have hzhB125 := hB125.size
          refine WL.done' ?_ (fun _ _ h => h)
          refine WC.ret (fun a_ ha => ?_)
          refine ret_block ?_
          refine ret_then ?_
          exact bodyPost_cell (l := [.int .u8 0, .int .u64 0, .int .u64 0, .int .u64 0, .int .u64 0, .int .i64 0, .int .i64 0, .slice none 0 0]) rfl ha rfl Ty.agg29 hR124 ⟨_, rfl, (by simp only [Nd.times, hc13, hc64, hc65, hc69, hc122, cond_true, cond_false, Bool.not_true, Bool.not_false, Bool.or_true, Bool.false_or, Bool.and_true, Bool.and_false, Bool.false_and]; exact ((hn123.but hB125 (by intro h1; first | omega | ((try dsimp only at h1); (repeat' first | (guard_hyp h1 : _ ∨ _; refine Or.elim h1 (fun h1 => ?_) (fun h1 => ?_)) | (guard_hyp h1 : _ ∧ _; have hx := h1.2; replace h1 := h1.1)) <;> first | contradiction | omega))).dom (by intro k hk; (try dsimp only at hk); first | omega | exact hk.1.elim))), (hB125.onto (((hE5.trans hE11).trans hE67).trans hE120) (by omega))⟩
        | true =>
          refine WL.not rfl rfl rfl ?_
          refine WL.pick_t rfl rfl rfl rfl ?_
          refine WL.pick_f rfl rfl rfl rfl ?_
          refine WL.assign rfl rfl rfl ?_
          refine WL.done' ?_ (fun _ _ h => h)
          refine WC.cond_f rfl ?_
          refine WC.seqk ?_
          refine WC.weaken (r' := [(1, .int .i64 mn), (2, .int .i64 mx), (3, .pointer (some ⟨b1, 0, none⟩)), (6, .pointer (some ⟨b7, 0, none⟩)), (7, .bool false), (8, .bool false), (21, .bool false)]) (subReg_cons rfl (subReg_cons rfl (subReg_cons rfl (subReg_cons rfl (subReg_cons rfl (subReg_cons rfl (subReg_cons rfl (subReg_nil _)))))))) ?_
          refine WC.region ?_
          refine WL.fieldAddr rfl rfl Ty.fld29_0 rfl ?_
          have h173 := (((hR4.ext hE11).ext hE67).ext hE120)
          refine WL.load_fld rfl rfl Ty.flat5 rfl h173 rfl ?_
          cases hc174 : ((T.kind : Int) == 0) with
          | false =>
            refine WL.eql rfl rfl rfl rfl hc174 ?_
            have hp174 := beq_eq_false_iff_ne.1 hc174
            refine WL.move rfl rfl rfl ?_
            refine WL.pass rfl rfl ?_
            refine WL.pass rfl rfl ?_
            refine WL.pick_f rfl rfl rfl rfl ?_
            refine WL.assign rfl rfl rfl ?_
            refine WL.done' ?_ (fun _ _ h => h)
            refine WC.cond_f rfl ?_
            refine WC.seqk ?_
            refine WC.weaken (r' := [(1, .int .i64 mn), (2, .int .i64 mx), (3, .pointer (some ⟨b1, 0, none⟩)), (6, .pointer (some ⟨b7, 0, none⟩)), (7, .bool false), (8, .bool false), (21, .bool false), (40, .bool false)]) (subReg_cons rfl (subReg_cons rfl (subReg_cons rfl (subReg_cons rfl (subReg_cons rfl (subReg_cons rfl (subReg_cons rfl (subReg_cons rfl (subReg_nil _))))))))) ?_
            refine WC.region ?_
            refine WL.move rfl rfl rfl ?_
            refine WL.move rfl rfl rfl ?_
            refine WL.fieldAddr rfl rfl Ty.fld29_0 rfl ?_
            refine WL.load_fld rfl rfl Ty.flat5 rfl h173 rfl ?_
            refine WL.eql rfl rfl rfl rfl hc174 ?_
            refine WL.pick_f rfl rfl rfl rfl ?_
            refine WL.move rfl rfl rfl ?_
            refine WL.fieldAddr rfl rfl Ty.fld29_0 rfl ?_
            refine WL.load_fld rfl rfl Ty.flat5 rfl h173 rfl ?_
            cases hc175 : ((T.kind : Int) == 1) with
            | false =>
              refine WL.eql rfl rfl rfl rfl hc175 ?_
              have hp175 := beq_eq_false_iff_ne.1 hc175
              refine WL.pick_f rfl rfl rfl rfl ?_
              refine WL.assign rfl rfl rfl ?_
              refine WL.done' ?_ (fun _ _ h => h)
              refine WC.cond_f rfl ?_
              refine WC.seqk ?_
              refine WC.weaken (r' := [(1, .int .i64 mn), (2, .int .i64 mx), (3, .pointer (some ⟨b1, 0, none⟩)), (6, .pointer (some ⟨b7, 0, none⟩)), (8, .bool false), (21, .bool false), (40, .bool false), (49, .bool false)]) (subReg_cons rfl (subReg_cons rfl (subReg_cons rfl (subReg_cons rfl (subReg_cons rfl (subReg_cons rfl (subReg_cons rfl (subReg_cons rfl (subReg_nil _))))))))) ?_
              refine WC.region ?_
              refine WL.move rfl rfl rfl ?_
              refine WL.assign rfl rfl rfl ?_
              refine WL.done' ?_ (fun _ _ h => h)
              refine WC.cond_f rfl ?_
              refine WC.skip'' ?_ (fun _ _ h => h)
              refine WC.seqk ?_
              refine WC.region ?_
              refine WL.move rfl rfl rfl ?_
              refine WL.move rfl rfl rfl ?_
              refine WL.load_box rfl rfl rfl h173 Ty.agg29 ?_
              have h176 := ((h66.ext hE67).ext hE120)
              refine WL.buildSlice (vs := [.agg #[.int .u8 T.kind, .int .u64 T.set.a, .int .u64 T.set.b, .int .u64 T.set.c, .int .u64 T.set.d, .int .i64 T.least, .int .i64 T.most, .slice a T.subs.length cap]]) (cells := [.int .u8 T.kind, .int .u64 T.set.a, .int .u64 T.set.b, .int .u64 T.set.c, .int .u64 T.set.d, .int .i64 T.least, .int .i64 T.most, .slice a T.subs.length cap]) rfl rfl Ty.slice27 Ty.zero29 rfl rfl rfl rfl rfl rfl (fun b177 w182 hb178 hE181 hs179 hR180 => ?_)
              have hts177 := (NodesV.lit (n := 1) (ts := [T]) hR180 (RowsL.cons (h176.ext hE181) (RowsL.nil' _)) rfl rfl (by decide)).lt
              refine WL.build (l := [.int .u8 5, .int .u64 0, .int .u64 0, .int .u64 0, .int .u64 0, .int .i64 mn, .int .i64 mx, .slice (some ⟨b177, 0, none⟩) 1 1]) rfl rfl Ty.zero29 Ty.st29 ⟨⟨rfl, rfl⟩, (by kernel_rfl)⟩ ?_
              have hn183 : NodeL _ w182 [.int .u8 5, .int .u64 0, .int .u64 0, .int .u64 0, .int .u64 0, .int .i64 mn, .int .i64 mx, .slice (some ⟨b177, 0, none⟩) 1 1] (Nd.mk 5 Nd.zero mn mx ([T])) := NodeL.shut (k := 5) (s := Nd.zero) (mn := mn) (mx := mx) (sl := .slice (some ⟨b177, 0, none⟩) 1 1) (ts := [T]) hts177
              have hn183 := hn183.lt
              refine WL.call rfl rfl rfl Ty.ent42 (checked_ok _ _ _ _ hn183) ?_
              rintro _ w186 ⟨l184, rfl, hr184, hE185⟩
              have hzhE185 := hE185.size
              refine ⟨_, rfl, ?_⟩
              have hn184 := hr184.lt
              obtain ⟨sl184, rfl, hts184⟩ := hn184.opn
              obtain ⟨a184, cap184, rfl, hlen184, -⟩ := hts184.get
              have h189 := ((((hR10.ext hE67).ext hE120).ext hE181).ext hE185)
              refine WL.store_box rfl rfl rfl h189 Ty.agg29 rfl rfl (fun w190 hB188 hR187 => ?_)
              have hzhB188 := hB188.size
              refine WL.done' ?_ (fun _ _ h => h)
              refine WC.ret (fun a_ ha => ?_)
              exact bodyPost_cell (l := [.int .u8 ((Nd.mk 5 Nd.zero mn mx ([T])).checked).kind, .int .u64 ((Nd.mk 5 Nd.zero mn mx ([T])).checked).set.a, .int .u64 ((Nd.mk 5 Nd.zero mn mx ([T])).checked).set.b, .int .u64 ((Nd.mk 5 Nd.zero mn mx ([T])).checked).set.c, .int .u64 ((Nd.mk 5 Nd.zero mn mx ([T])).checked).set.d, .int .i64 ((Nd.mk 5 Nd.zero mn mx ([T])).checked).least, .int .i64 ((Nd.mk 5 Nd.zero mn mx ([T])).checked).most, .slice a184 ((Nd.mk 5 Nd.zero mn mx ([T])).checked).subs.length cap184]) rfl ha rfl Ty.agg29 hR187 ⟨_, rfl, (by simp only [Nd.times, hc13, hc64, hc65, hc69, hc122, hc174, hc175, cond_false, Bool.not_true, Bool.not_false, Bool.or_false, Bool.and_true, Bool.and_false, Bool.false_and]; exact ((hn184.but hB188 (by intro h1; first | omega | ((try dsimp only at h1); (repeat' first | (guard_hyp h1 : _ ∨ _; refine Or.elim h1 (fun h1 => ?_) (fun h1 => ?_)) | (guard_hyp h1 : _ ∧ _; have hx := h1.2; replace h1 := h1.1)) <;> first | contradiction | omega))).dom (by intro k hk; (try dsimp only at hk); first | omega | exact hk.1.elim))), (hB188.onto (((((hE5.trans hE11).trans hE67).trans hE120).trans hE181).trans hE185) (by omega))⟩
            | true =>
              refine WL.eql rfl rfl rfl rfl hc175 ?_
              have hp175 := beq_iff_eq.1 hc175
              refine WL.pick_f rfl rfl rfl rfl ?_
              refine WL.assign rfl rfl rfl ?_
              refine WL.done' ?_ (fun _ _ h => h)
              refine WC.cond_t rfl ?_
              refine WC.seqk ?_
              refine WC.weaken (r' := [(1, .int .i64 mn), (2, .int .i64 mx), (3, .pointer (some ⟨b1, 0, none⟩)), (6, .pointer (some ⟨b7, 0, none⟩)), (8, .bool false), (21, .bool false), (40, .bool false), (49, .bool true)]) (subReg_cons rfl (subReg_cons rfl (subReg_cons rfl (subReg_cons rfl (subReg_cons rfl (subReg_cons rfl (subReg_cons rfl (subReg_cons rfl (subReg_nil _))))))))) ?_
              refine WC.region ?_
              refine WL.build (l := [.int .u8 1, .int .u64 0, .int .u64 0, .int .u64 0, .int .u64 0, .int .i64 0, .int .i64 0, .slice none 0 0]) rfl rfl Ty.zero29 Ty.st29 ⟨⟨rfl, rfl⟩, (by kernel_rfl)⟩ ?_
              have hn226 : NodeL _ w121 [.int .u8 1, .int .u64 0, .int .u64 0, .int .u64 0, .int .u64 0, .int .i64 0, .int .i64 0, .slice none 0 0] (Nd.mk 1 Nd.zero 0 0 ([])) := NodeL.shut (k := 1) (s := Nd.zero) (mn := 0) (mx := 0) (sl := .slice none 0 0) (ts := []) (NodesV.nil (fun _ => False) _ none 0)
              have hn226 := hn226.lt
              have h229 := ((hR10.ext hE67).ext hE120)
              refine WL.store_box rfl rfl rfl h229 Ty.agg29 rfl rfl (fun w230 hB228 hR227 => ?_)
              have hzhB228 := hB228.size
              refine WL.done' ?_ (fun _ _ h => h)
              refine WC.ret (fun a_ ha => ?_)
              refine ret_block ?_
              refine ret_then ?_
              exact bodyPost_cell (l := [.int .u8 1, .int .u64 0, .int .u64 0, .int .u64 0, .int .u64 0, .int .i64 0, .int .i64 0, .slice none 0 0]) rfl ha rfl Ty.agg29 hR227 ⟨_, rfl, (by simp only [Nd.times, hc13, hc64, hc65, hc69, hc122, hc174, hc175, cond_true, cond_false, Bool.not_true, Bool.not_false, Bool.or_true, Bool.or_false, Bool.and_true, Bool.and_false, Bool.false_and]; exact ((hn226.but hB228 (by intro h1; first | omega | ((try dsimp only at h1); (repeat' first | (guard_hyp h1 : _ ∨ _; refine Or.elim h1 (fun h1 => ?_) (fun h1 => ?_)) | (guard_hyp h1 : _ ∧ _; have hx := h1.2; replace h1 := h1.1)) <;> first | contradiction | omega))).dom (by intro k hk; (try dsimp only at hk); first | omega | exact hk.1.elim))), (hB228.onto (((hE5.trans hE11).trans hE67).trans hE120) (by omega))⟩
          | true =>
            refine WL.eql rfl rfl rfl rfl hc174 ?_
            have hp174 := beq_iff_eq.1 hc174
            refine WL.move rfl rfl rfl ?_
            refine WL.move rfl rfl rfl ?_
            have hc225 : decide ((0 : Int) < mn) = false := decide_eq_false (by omega)
            refine WL.gtr rfl rfl rfl rfl hc225 ?_
            refine WL.pick_t rfl rfl rfl rfl ?_
            refine WL.assign rfl rfl rfl ?_
            refine WL.done' ?_ (fun _ _ h => h)
            refine WC.cond_f rfl ?_
            refine WC.seqk ?_
            refine WC.weaken (r' := [(1, .int .i64 mn), (2, .int .i64 mx), (3, .pointer (some ⟨b1, 0, none⟩)), (6, .pointer (some ⟨b7, 0, none⟩)), (7, .bool false), (8, .bool false), (21, .bool false), (40, .bool false)]) (subReg_cons rfl (subReg_cons rfl (subReg_cons rfl (subReg_cons rfl (subReg_cons rfl (subReg_cons rfl (subReg_cons rfl (subReg_cons rfl (subReg_nil _))))))))) ?_
            refine WC.region ?_
            refine WL.move rfl rfl rfl ?_
            refine WL.move rfl rfl rfl ?_
            refine WL.fieldAddr rfl rfl Ty.fld29_0 rfl ?_
            refine WL.load_fld rfl rfl Ty.flat5 rfl h173 rfl ?_
            refine WL.eql rfl rfl rfl rfl hc174 ?_
            refine WL.pick_f rfl rfl rfl rfl ?_
            refine WL.move rfl rfl rfl ?_
            refine WL.pass rfl rfl ?_
            refine WL.pass rfl rfl ?_
            refine WL.pass rfl rfl ?_
            refine WL.pick_t rfl rfl rfl rfl ?_
            refine WL.assign rfl rfl rfl ?_
            refine WL.done' ?_ (fun _ _ h => h)
            refine WC.cond_t rfl ?_
            refine WC.seqk ?_
            refine WC.weaken (r' := [(1, .int .i64 mn), (2, .int .i64 mx), (3, .pointer (some ⟨b1, 0, none⟩)), (6, .pointer (some ⟨b7, 0, none⟩)), (8, .bool false), (21, .bool false), (40, .bool false), (49, .bool true)]) (subReg_cons rfl (subReg_cons rfl (subReg_cons rfl (subReg_cons rfl (subReg_cons rfl (subReg_cons rfl (subReg_cons rfl (subReg_cons rfl (subReg_nil _))))))))) ?_
            refine WC.region ?_
            refine WL.build (l := [.int .u8 1, .int .u64 0, .int .u64 0, .int .u64 0, .int .u64 0, .int .i64 0, .int .i64 0, .slice none 0 0]) rfl rfl Ty.zero29 Ty.st29 ⟨⟨rfl, rfl⟩, (by kernel_rfl)⟩ ?_
            have hn226 : NodeL _ w121 [.int .u8 1, .int .u64 0, .int .u64 0, .int .u64 0, .int .u64 0, .int .i64 0, .int .i64 0, .slice none 0 0] (Nd.mk 1 Nd.zero 0 0 ([])) := NodeL.shut (k := 1) (s := Nd.zero) (mn := 0) (mx := 0) (sl := .slice none 0 0) (ts := []) (NodesV.nil (fun _ => False) _ none 0)
            have hn226 := hn226.lt
            have h229 := ((hR10.ext hE67).ext hE120)
            refine WL.store_box rfl rfl rfl h229 Ty.agg29 rfl rfl (fun w230 hB228 hR227 => ?_)
            have hzhB228 := hB228.size
            refine WL.done' ?_ (fun _ _ h => h)
            refine WC.ret (fun a_ ha => ?_)
            refine ret_block ?_
            refine ret_then ?_
            exact bodyPost_cell (l := [.int .u8 1, .int .u64 0, .int .u64 0, .int .u64 0, .int .u64 0, .int .i64 0, .int .i64 0, .slice none 0 0]) rfl ha rfl Ty.agg29 hR227 ⟨_, rfl, (by simp only [Nd.times, hc13, hc64, hc65, hc69, hc122, hc174, hc225, cond_true, cond_false, Bool.not_true, Bool.not_false, Bool.or_true, Bool.true_or, Bool.or_false, Bool.and_true, Bool.and_false, Bool.false_and]; exact ((hn226.but hB228 (by intro h1; first | omega | ((try dsimp only at h1); (repeat' first | (guard_hyp h1 : _ ∨ _; refine Or.elim h1 (fun h1 => ?_) (fun h1 => ?_)) | (guard_hyp h1 : _ ∧ _; have hx := h1.2; replace h1 := h1.1)) <;> first | contradiction | omega))).dom (by intro k hk; (try dsimp only at hk); first | omega | exact hk.1.elim))), (hB228.onto (((hE5.trans hE11).trans hE67).trans hE120) (by omega))⟩
    | true =>
      refine WL.eql rfl rfl rfl rfl hc64 ?_
      have hp64 := beq_iff_eq.1 hc64
      refine WL.pick_t rfl rfl rfl rfl ?_
      refine WL.move rfl rfl rfl ?_
      have hc115 : ((mn : Int) == 1) = false := beq_eq_false_iff_ne.2 (by omega)
      refine WL.eql rfl rfl rfl rfl hc115 ?_
      refine WL.move rfl rfl rfl ?_
      refine WL.pass rfl rfl ?_
      refine WL.pass rfl rfl ?_
      refine WL.pick_f rfl rfl rfl rfl ?_
      refine WL.assign rfl rfl rfl ?_
      refine WL.assign rfl rfl rfl ?_
      refine WL.done' ?_ (fun _ _ h => h)
      refine WC.seqk ?_
      refine WC.block ?_
      refine WC.seqk ?_
      refine WC.weaken (r' := [(1, .int .i64 mn), (2, .int .i64 mx), (3, .pointer (some ⟨b1, 0, none⟩)), (6, .pointer (some ⟨b7, 0, none⟩)), (7, .bool true), (8, .bool false)]) (subReg_cons rfl (subReg_cons rfl (subReg_cons rfl (subReg_cons rfl (subReg_cons rfl (subReg_cons rfl (subReg_nil _))))))) ?_
      refine WC.region ?_
      refine WL.load_box rfl rfl rfl (hR4.ext hE11) Ty.agg29 ?_
      have h116 := ((hT.ext hE5).ext hE11)
      refine WL.call rfl rfl rfl Ty.ent34 (good_ok _ _ _ _ h116) ?_
      rintro _ w118 ⟨rfl, hE117⟩
      have hzhE117 := hE117.size
      refine ⟨_, rfl, ?_⟩
      cases hc119 : Nd.good T with
      | false =>
        refine WL.not rfl rfl rfl ?_
        refine WL.move rfl rfl rfl ?_
        refine WL.pass rfl rfl ?_
        refine WL.pass rfl rfl ?_
        refine WL.pass rfl rfl ?_
        refine WL.pass rfl rfl ?_
        refine WL.pass rfl rfl ?_
        refine WL.pass rfl rfl ?_
        refine WL.pass rfl rfl ?_
        refine WL.pass rfl rfl ?_
        refine WL.pass rfl rfl ?_
        refine WL.pass rfl rfl ?_
        refine WL.pass rfl rfl ?_
        refine WL.pass rfl rfl ?_
        refine WL.pick_t rfl rfl rfl rfl ?_
        refine WL.assign rfl rfl rfl ?_
        refine WL.done' ?_ (fun _ _ h => h)
        refine WC.cond_t rfl ?_
        refine WC.seqk ?_
        refine WC.weaken (r' := [(1, .int .i64 mn), (2, .int .i64 mx), (3, .pointer (some ⟨b1, 0, none⟩)), (6, .pointer (some ⟨b7, 0, none⟩)), (7, .bool true), (8, .bool false), (21, .bool true)]) (subReg_cons rfl (subReg_cons rfl (subReg_cons rfl (subReg_cons rfl (subReg_cons rfl (subReg_cons rfl (subReg_cons rfl (subReg_nil _)))))))) ?_
        refine WC.region ?_
        refine WL.build0 (l := [.int .u8 0, .int .u64 0, .int .u64 0, .int .u64 0, .int .u64 0, .int .i64 0, .int .i64 0, .slice none 0 0]) rfl rfl Ty.zero29 Ty.agg29 rfl Ty.bz29 ?_
        have hn120 : NodeL _ w118 [.int .u8 0, .int .u64 0, .int .u64 0, .int .u64 0, .int .u64 0, .int .i64 0, .int .i64 0, .slice none 0 0] (Nd.mk 0 Nd.zero 0 0 ([])) := NodeL.shut (k := 0) (s := Nd.zero) (mn := 0) (mx := 0) (sl := .slice none 0 0) (ts := []) (NodesV.nil (fun _ => False) _ none 0)
        have hn120 := hn120.lt
        refine WL.store_box rfl rfl rfl (hR10.ext hE117) Ty.agg29 rfl rfl (fun w123 hB122 hR121 => ?_)
        have hzhB122 := hB122.size
        refine WL.done' ?_ (fun _ _ h => h)
        refine WC.ret (fun a_ ha => ?_)
        refine ret_block ?_
        refine ret_then ?_
        exact bodyPost_cell (l := [.int .u8 0, .int .u64 0, .int .u64 0, .int .u64 0, .int .u64 0, .int .i64 0, .int .i64 0, .slice none 0 0]) rfl ha rfl Ty.agg29 hR121 ⟨_, rfl, (by simp only [Nd.times, hc13, hc64, hc115, hc119, cond_true, cond_false, Bool.not_true, Bool.not_false, Bool.true_or, Bool.or_false, Bool.and_true, Bool.false_and]; exact ((hn120.but hB122 (by intro h1; first | omega | ((try dsimp only at h1); (repeat' first | (guard_hyp h1 : _ ∨ _; refine Or.elim h1 (fun h1 => ?_) (fun h1 => ?_)) | (guard_hyp h1 : _ ∧ _; have hx := h1.2; replace h1 := h1.1)) <;> first | contradiction | omega))).dom (by intro k hk; (try dsimp only at hk); first | omega | exact hk.1.elim))), (hB122.onto ((hE5.trans hE11).trans hE117) (by omega))⟩
      | true =>
        refine WL.not rfl rfl rfl ?_
        refine WL.move rfl rfl rfl ?_
        refine WL.move rfl rfl rfl ?_
        refine WL.not rfl rfl rfl ?_
        refine WL.move rfl rfl rfl ?_
        refine WL.pass rfl rfl ?_
        refine WL.pass rfl rfl ?_
        refine WL.pick_f rfl rfl rfl rfl ?_
        refine WL.move rfl rfl rfl ?_
        refine WL.pass rfl rfl ?_
        refine WL.pass rfl rfl ?_
        refine WL.pass rfl rfl ?_
        refine WL.pass rfl rfl ?_
        refine WL.pick_f rfl rfl rfl rfl ?_
        refine WL.pick_f rfl rfl rfl rfl ?_
        refine WL.assign rfl rfl rfl ?_
        refine WL.done' ?_ (fun _ _ h => h)
        refine WC.cond_f rfl ?_
        refine WC.seqk ?_
        refine WC.weaken (r' := [(1, .int .i64 mn), (2, .int .i64 mx), (3, .pointer (some ⟨b1, 0, none⟩)), (6, .pointer (some ⟨b7, 0, none⟩)), (7, .bool true), (8, .bool false), (21, .bool false)]) (subReg_cons rfl (subReg_cons rfl (subReg_cons rfl (subReg_cons rfl (subReg_cons rfl (subReg_cons rfl (subReg_cons rfl (subReg_nil _)))))))) ?_
        refine WC.region ?_
        refine WL.fieldAddr rfl rfl Ty.fld29_0 rfl ?_
        have h170 := ((hR4.ext hE11).ext hE117)
        refine WL.load_fld rfl rfl Ty.flat5 rfl h170 rfl ?_
        cases hc171 : ((T.kind : Int) == 0) with
        | false =>
          refine WL.eql rfl rfl rfl rfl hc171 ?_
          have hp171 := beq_eq_false_iff_ne.1 hc171
          refine WL.move rfl rfl rfl ?_
          refine WL.pass rfl rfl ?_
          refine WL.pass rfl rfl ?_
          refine WL.pick_f rfl rfl rfl rfl ?_
          refine WL.assign rfl rfl rfl ?_
          refine WL.done' ?_ (fun _ _ h => h)
          refine WC.cond_f rfl ?_
          refine WC.seqk ?_
          refine WC.weaken (r' := [(1, .int .i64 mn), (2, .int .i64 mx), (3, .pointer (some ⟨b1, 0, none⟩)), (6, .pointer (some ⟨b7, 0, none⟩)), (7, .bool true), (8, .bool false), (21, .bool false), (40, .bool false)]) (subReg_cons rfl (subReg_cons rfl (subReg_cons rfl (subReg_cons rfl (subReg_cons rfl (subReg_cons rfl (subReg_cons rfl (subReg_cons rfl (subReg_nil _))))))))) ?_
          refine WC.region ?_
          refine WL.move rfl rfl rfl ?_
          refine WL.move rfl rfl rfl ?_
          refine WL.pass rfl rfl ?_
          refine WL.pass rfl rfl ?_
          refine WL.pass rfl rfl ?_
          refine WL.pick_t rfl rfl rfl rfl ?_
          refine WL.move rfl rfl rfl ?_
          refine WL.pass rfl rfl ?_
          refine WL.pass rfl rfl ?_
          refine WL.pass rfl rfl ?_
          refine WL.pick_t rfl rfl rfl rfl ?_
          refine WL.assign rfl rfl rfl ?_
          refine WL.done' ?_ (fun _ _ h => h)
          refine WC.cond_t rfl ?_
          refine WC.seqk ?_
          refine WC.weaken (r' := [(1, .int .i64 mn), (2, .int .i64 mx), (3, .pointer (some ⟨b1, 0, none⟩)), (6, .pointer (some ⟨b7, 0, none⟩)), (8, .bool false), (21, .bool false), (40, .bool false), (49, .bool true)]) (subReg_cons rfl (subReg_cons rfl (subReg_cons rfl (subReg_cons rfl (subReg_cons rfl (subReg_cons rfl (subReg_cons rfl (subReg_cons rfl (subReg_nil _))))))))) ?_
          refine WC.region ?_
          refine WL.build (l := [.int .u8 1, .int .u64 0, .int .u64 0, .int .u64 0, .int .u64 0, .int .i64 0, .int .i64 0, .slice none 0 0]) rfl rfl Ty.zero29 Ty.st29 ⟨⟨rfl, rfl⟩, (by kernel_rfl)⟩ ?_
          have hn172 : NodeL _ w118 [.int .u8 1, .int .u64 0, .int .u64 0, .int .u64 0, .int .u64 0, .int .i64 0, .int .i64 0, .slice none 0 0] (Nd.mk 1 Nd.zero 0 0 ([])) := NodeL.shut (k := 1) (s := Nd.zero) (mn := 0) (mx := 0) (sl := .slice none 0 0) (ts := []) (NodesV.nil (fun _ => False) _ none 0)
          have hn172 := hn172.lt
          refine WL.store_box rfl rfl rfl (hR10.ext hE117) Ty.agg29 rfl rfl (fun w175 hB174 hR173 => ?_)
          have hzhB174 := hB174.size
          refine WL.done' ?_ (fun _ _ h => h)
          refine WC.ret (fun a_ ha => ?_)
          refine ret_block ?_
          refine ret_then ?_
          exact bodyPost_cell (l := [.int .u8 1, .int .u64 0, .int .u64 0, .int .u64 0, .int .u64 0, .int .i64 0, .int .i64 0, .slice none 0 0]) rfl ha rfl Ty.agg29 hR173 ⟨_, rfl, (by simp only [Nd.times, hc13, hc64, hc115, hc119, hc171, cond_true, cond_false, Bool.not_true, Bool.not_false, Bool.true_or, Bool.or_false, Bool.and_true, Bool.false_and]; exact ((hn172.but hB174 (by intro h1; first | omega | ((try dsimp only at h1); (repeat' first | (guard_hyp h1 : _ ∨ _; refine Or.elim h1 (fun h1 => ?_) (fun h1 => ?_)) | (guard_hyp h1 : _ ∧ _; have hx := h1.2; replace h1 := h1.1)) <;> first | contradiction | omega))).dom (by intro k hk; (try dsimp only at hk); first | omega | exact hk.1.elim))), (hB174.onto ((hE5.trans hE11).trans hE117) (by omega))⟩
        | true =>
          refine WL.eql rfl rfl rfl rfl hc171 ?_
          have hp171 := beq_iff_eq.1 hc171
          refine WL.move rfl rfl rfl ?_
          refine WL.move rfl rfl rfl ?_
          have hc222 : decide ((0 : Int) < mn) = false := decide_eq_false (by omega)
          refine WL.gtr rfl rfl rfl rfl hc222 ?_
          refine WL.pick_t rfl rfl rfl rfl ?_
          refine WL.assign rfl rfl rfl ?_
          refine WL.done' ?_ (fun _ _ h => h)
          refine WC.cond_f rfl ?_
          refine WC.seqk ?_
          refine WC.weaken (r' := [(1, .int .i64 mn), (2, .int .i64 mx), (3, .pointer (some ⟨b1, 0, none⟩)), (6, .pointer (some ⟨b7, 0, none⟩)), (7, .bool true), (8, .bool false), (21, .bool false), (40, .bool false)]) (subReg_cons rfl (subReg_cons rfl (subReg_cons rfl (subReg_cons rfl (subReg_cons rfl (subReg_cons rfl (subReg_cons rfl (subReg_cons rfl (subReg_nil _))))))))) ?_
          refine WC.region ?_
          refine WL.move rfl rfl rfl ?_
          refine WL.move rfl rfl rfl ?_
          refine WL.pass rfl rfl ?_
          refine WL.pass rfl rfl ?_
          refine WL.pass rfl rfl ?_
          refine WL.pick_t rfl rfl rfl rfl ?_
          refine WL.move rfl rfl rfl ?_
          refine WL.pass rfl rfl ?_
          refine WL.pass rfl rfl ?_
          refine WL.pass rfl rfl ?_
          refine WL.pick_t rfl rfl rfl rfl ?_
          refine WL.assign rfl rfl rfl ?_
          refine WL.done' ?_ (fun _ _ h => h)
          refine WC.cond_t rfl ?_
          refine WC.seqk ?_
          refine WC.weaken (r' := [(1, .int .i64 mn), (2, .int .i64 mx), (3, .pointer (some ⟨b1, 0, none⟩)), (6, .pointer (some ⟨b7, 0, none⟩)), (8, .bool false), (21, .bool false), (40, .bool false), (49, .bool true)]) (subReg_cons rfl (subReg_cons rfl (subReg_cons rfl (subReg_cons rfl (subReg_cons rfl (subReg_cons rfl (subReg_cons rfl (subReg_cons rfl (subReg_nil _))))))))) ?_
          refine WC.region ?_
          refine WL.build (l := [.int .u8 1, .int .u64 0, .int .u64 0, .int .u64 0, .int .u64 0, .int .i64 0, .int .i64 0, .slice none 0 0]) rfl rfl Ty.zero29 Ty.st29 ⟨⟨rfl, rfl⟩, (by kernel_rfl)⟩ ?_
          have hn223 : NodeL _ w118 [.int .u8 1, .int .u64 0, .int .u64 0, .int .u64 0, .int .u64 0, .int .i64 0, .int .i64 0, .slice none 0 0] (Nd.mk 1 Nd.zero 0 0 ([])) := NodeL.shut (k := 1) (s := Nd.zero) (mn := 0) (mx := 0) (sl := .slice none 0 0) (ts := []) (NodesV.nil (fun _ => False) _ none 0)
          have hn223 := hn223.lt
          refine WL.store_box rfl rfl rfl (hR10.ext hE117) Ty.agg29 rfl rfl (fun w226 hB225 hR224 => ?_)
          have hzhB225 := hB225.size
          refine WL.done' ?_ (fun _ _ h => h)
          refine WC.ret (fun a_ ha => ?_)
          refine ret_block ?_
          refine ret_then ?_
          exact bodyPost_cell (l := [.int .u8 1, .int .u64 0, .int .u64 0, .int .u64 0, .int .u64 0, .int .i64 0, .int .i64 0, .slice none 0 0]) rfl ha rfl Ty.agg29 hR224 ⟨_, rfl, (by simp only [Nd.times, hc13, hc64, hc115, hc119, hc171, hc222, cond_true, cond_false, Bool.not_true, Bool.not_false, Bool.or_true, Bool.true_or, Bool.or_false, Bool.and_true, Bool.and_false, Bool.false_and]; exact ((hn223.but hB225 (by intro h1; first | omega | ((try dsimp only at h1); (repeat' first | (guard_hyp h1 : _ ∨ _; refine Or.elim h1 (fun h1 => ?_) (fun h1 => ?_)) | (guard_hyp h1 : _ ∧ _; have hx := h1.2; replace h1 := h1.1)) <;> first | contradiction | omega))).dom (by intro k hk; (try dsimp only at hk); first | omega | exact hk.1.elim))), (hB225.onto ((hE5.trans hE11).trans hE117) (by omega))⟩

set_option maxRecDepth 20000 in
set_option maxHeartbeats 4000000 in
theorem capture_ok (D : Nat → Prop) (w : World) (l : List Value) (T : Nd) (hT : NodeL D w l T) :
    Calls Try.prog 25 #[.agg l.toArray] w fun e w' => ∃ l', e = .returned (.agg l'.toArray) ∧ NodeL (fun k => w.heap.size ≤ k) w' l' (Nd.capture T) ∧ Ext w w' := by
  have hT := hT.lt
  obtain ⟨sl, rfl, hts⟩ := hT.opn
  obtain ⟨a, cap, rfl, hlen, -⟩ := hts.get
  refine Calls.enter (args := [.agg #[.int .u8 T.kind, .int .u64 T.set.a, .int .u64 T.set.b, .int .u64 T.set.c, .int .u64 T.set.d, .int .i64 T.least, .int .i64 T.most, .slice a T.subs.length cap]]) Try.func25 rfl rfl rfl rfl ?_
  refine WC.seqk ?_
  refine WC.region ?_
  refine WL.box_agg rfl rfl rfl (fun b1 w6 hb2 hE5 hs3 hR4 => ?_)
  refine WL.alloc rfl rfl Ty.zero29 rfl (fun b7 w12 hb8 hE11 hs9 hR10 => ?_)
  refine WL.done' ?_ (fun _ _ h => h)
  refine WC.seqk ?_
  refine WC.region ?_
  refine WL.load_box rfl rfl rfl (hR4.ext hE11) Ty.agg29 ?_
  have h13 := ((hT.ext hE5).ext hE11)
  refine WL.buildSlice (vs := [.agg #[.int .u8 T.kind, .int .u64 T.set.a, .int .u64 T.set.b, .int .u64 T.set.c, .int .u64 T.set.d, .int .i64 T.least, .int .i64 T.most, .slice a T.subs.length cap]]) (cells := [.int .u8 T.kind, .int .u64 T.set.a, .int .u64 T.set.b, .int .u64 T.set.c, .int .u64 T.set.d, .int .i64 T.least, .int .i64 T.most, .slice a T.subs.length cap]) rfl rfl Ty.slice27 Ty.zero29 rfl rfl rfl rfl rfl rfl (fun b14 w19 hb15 hE18 hs16 hR17 => ?_)
  have hts14 := (NodesV.lit (n := 1) (ts := [T]) hR17 (RowsL.cons (h13.ext hE18) (RowsL.nil' _)) rfl rfl (by decide)).lt
  refine WL.build (l := [.int .u8 6, .int .u64 0, .int .u64 0, .int .u64 0, .int .u64 0, .int .i64 0, .int .i64 0, .slice (some ⟨b14, 0, none⟩) 1 1]) rfl rfl Ty.zero29 Ty.st29 ⟨⟨rfl, rfl⟩, (by kernel_rfl)⟩ ?_
  have hn20 : NodeL _ w19 [.int .u8 6, .int .u64 0, .int .u64 0, .int .u64 0, .int .u64 0, .int .i64 0, .int .i64 0, .slice (some ⟨b14, 0, none⟩) 1 1] (Nd.mk 6 Nd.zero 0 0 ([T])) := NodeL.shut (k := 6) (s := Nd.zero) (mn := 0) (mx := 0) (sl := .slice (some ⟨b14, 0, none⟩) 1 1) (ts := [T]) hts14
  have hn20 := hn20.lt
  refine WL.call rfl rfl rfl Ty.ent42 (checked_ok _ _ _ _ hn20) ?_
  rintro _ w23 ⟨l21, rfl, hr21, hE22⟩
  have hzhE22 := hE22.size
  refine ⟨_, rfl, ?_⟩
  have hn21 := hr21.lt
  obtain ⟨sl21, rfl, hts21⟩ := hn21.opn
  obtain ⟨a21, cap21, rfl, hlen21, -⟩ := hts21.get
  have h26 := ((hR10.ext hE18).ext hE22)
  refine WL.store_box rfl rfl rfl h26 Ty.agg29 rfl rfl (fun w27 hB25 hR24 => ?_)
  have hzhB25 := hB25.size
  refine WL.done' ?_ (fun _ _ h => h)
  refine WC.ret (fun a_ ha => ?_)
  exact bodyPost_cell (l := [.int .u8 ((Nd.mk 6 Nd.zero 0 0 ([T])).checked).kind, .int .u64 ((Nd.mk 6 Nd.zero 0 0 ([T])).checked).set.a, .int .u64 ((Nd.mk 6 Nd.zero 0 0 ([T])).checked).set.b, .int .u64 ((Nd.mk 6 Nd.zero 0 0 ([T])).checked).set.c, .int .u64 ((Nd.mk 6 Nd.zero 0 0 ([T])).checked).set.d, .int .i64 ((Nd.mk 6 Nd.zero 0 0 ([T])).checked).least, .int .i64 ((Nd.mk 6 Nd.zero 0 0 ([T])).checked).most, .slice a21 ((Nd.mk 6 Nd.zero 0 0 ([T])).checked).subs.length cap21]) rfl ha rfl Ty.agg29 hR24 ⟨_, rfl, (by change NodeL _ _ _ (Nd.checked _); exact ((hn21.but hB25 (by intro h1; first | omega | ((try dsimp only at h1); (repeat' first | (guard_hyp h1 : _ ∨ _; refine Or.elim h1 (fun h1 => ?_) (fun h1 => ?_)) | (guard_hyp h1 : _ ∧ _; have hx := h1.2; replace h1 := h1.1)) <;> first | contradiction | omega))).dom (by intro k hk; (try dsimp only at hk); first | omega | exact hk.1.elim))), (hB25.onto (((hE5.trans hE11).trans hE18).trans hE22) (by omega))⟩

set_option maxRecDepth 20000 in
set_option maxHeartbeats 4000000 in
theorem of_ok (w : World) (s : S4) :
    Calls Try.prog 26 #[.agg #[.int .u64 s.a, .int .u64 s.b, .int .u64 s.c, .int .u64 s.d]] w fun e w' => ∃ l', e = .returned (.agg l'.toArray) ∧ NodeL (fun k => w.heap.size ≤ k) w' l' (Nd.ofS s) ∧ Ext w w' := by
  refine Calls.enter (args := [.agg #[.int .u64 s.a, .int .u64 s.b, .int .u64 s.c, .int .u64 s.d]]) Try.func26 rfl rfl rfl rfl ?_
  refine WC.seqk ?_
  refine WC.region ?_
  refine WL.box_agg rfl rfl rfl (fun b1 w6 hb2 hE5 hs3 hR4 => ?_)
  refine WL.alloc rfl rfl Ty.zero29 rfl (fun b7 w12 hb8 hE11 hs9 hR10 => ?_)
  refine WL.done' ?_ (fun _ _ h => h)
  refine WC.seqk ?_
  refine WC.seqk ?_
  refine WC.region ?_
  refine WL.load_box rfl rfl rfl (hR4.ext hE11) Ty.agg26 ?_
  refine WL.build0 (l := [.int .u64 0, .int .u64 0, .int .u64 0, .int .u64 0]) rfl rfl Ty.zero26 Ty.agg26 rfl Ty.bz26 ?_
  cases hc13 : (s == Nd.zero) with
  | false =>
    refine WL.seteql (s := s) (s' := Nd.zero) rfl rfl Ty.arr26 Ty.eqg26 Try.underlying24 rfl rfl hc13 ?_
    refine WL.done' ?_ (fun _ _ h => h)
    refine WC.cond_f rfl ?_
    refine WC.skip'' ?_ (fun _ _ h => h)
    refine WC.seqk ?_
    refine WC.region ?_
    refine WL.load_box rfl rfl rfl (hR4.ext hE11) Ty.agg26 ?_
    refine WL.build (l := [.int .u8 2, .int .u64 s.a, .int .u64 s.b, .int .u64 s.c, .int .u64 s.d, .int .i64 0, .int .i64 0, .slice none 0 0]) rfl rfl Ty.zero29 Ty.st29 ⟨⟨rfl, rfl⟩, (by kernel_rfl)⟩ ?_
    have hn14 : NodeL _ w12 [.int .u8 2, .int .u64 s.a, .int .u64 s.b, .int .u64 s.c, .int .u64 s.d, .int .i64 0, .int .i64 0, .slice none 0 0] (Nd.mk 2 s 0 0 ([])) := NodeL.shut (k := 2) (s := s) (mn := 0) (mx := 0) (sl := .slice none 0 0) (ts := []) (NodesV.nil (fun _ => False) _ none 0)
    have hn14 := hn14.lt
    refine WL.store_box rfl rfl rfl hR10 Ty.agg29 rfl rfl (fun w17 hB16 hR15 => ?_)
    have hzhB16 := hB16.size
    refine WL.done' ?_ (fun _ _ h => h)
    refine WC.ret (fun a_ ha => ?_)
    exact bodyPost_cell (l := [.int .u8 2, .int .u64 s.a, .int .u64 s.b, .int .u64 s.c, .int .u64 s.d, .int .i64 0, .int .i64 0, .slice none 0 0]) rfl ha rfl Ty.agg29 hR15 ⟨_, rfl, (by simp only [Nd.ofS, hc13, cond_false]; exact ((hn14.but hB16 (by intro h1; first | omega | ((try dsimp only at h1); (repeat' first | (guard_hyp h1 : _ ∨ _; refine Or.elim h1 (fun h1 => ?_) (fun h1 => ?_)) | (guard_hyp h1 : _ ∧ _; have hx := h1.2; replace h1 := h1.1)) <;> first | contradiction | omega))).dom (by intro k hk; (try dsimp only at hk); first | omega | exact hk.1.elim))), (hB16.onto (hE5.trans hE11) (by omega))⟩
  | true =>
    refine WL.seteql (s := s) (s' := Nd.zero) rfl rfl Ty.arr26 Ty.eqg26 Try.underlying24 rfl rfl hc13 ?_
    refine WL.done' ?_ (fun _ _ h => h)
    refine WC.cond_t rfl ?_
    refine WC.seqk ?_
    refine WC.region ?_
    refine WL.build0 (l := [.int .u8 0, .int .u64 0, .int .u64 0, .int .u64 0, .int .u64 0, .int .i64 0, .int .i64 0, .slice none 0 0]) rfl rfl Ty.zero29 Ty.agg29 rfl Ty.bz29 ?_
    have hn64 : NodeL _ w12 [.int .u8 0, .int .u64 0, .int .u64 0, .int .u64 0, .int .u64 0, .int .i64 0, .int .i64 0, .slice none 0 0] (Nd.mk 0 Nd.zero 0 0 ([])) := NodeL.shut (k := 0) (s := Nd.zero) (mn := 0) (mx := 0) (sl := .slice none 0 0) (ts := []) (NodesV.nil (fun _ => False) _ none 0)
    have hn64 := hn64.lt
    refine WL.store_box rfl rfl rfl hR10 Ty.agg29 rfl rfl (fun w67 hB66 hR65 => ?_)
    have hzhB66 := hB66.size
    refine WL.done' ?_ (fun _ _ h => h)
    refine WC.ret (fun a_ ha => ?_)
    refine ret_then ?_
    exact bodyPost_cell (l := [.int .u8 0, .int .u64 0, .int .u64 0, .int .u64 0, .int .u64 0, .int .i64 0, .int .i64 0, .slice none 0 0]) rfl ha rfl Ty.agg29 hR65 ⟨_, rfl, (by simp only [Nd.ofS, hc13, cond_true]; exact ((hn64.but hB66 (by intro h1; first | omega | ((try dsimp only at h1); (repeat' first | (guard_hyp h1 : _ ∨ _; refine Or.elim h1 (fun h1 => ?_) (fun h1 => ?_)) | (guard_hyp h1 : _ ∧ _; have hx := h1.2; replace h1 := h1.1)) <;> first | contradiction | omega))).dom (by intro k hk; (try dsimp only at hk); first | omega | exact hk.1.elim))), (hB66.onto (hE5.trans hE11) (by omega))⟩

set_option maxRecDepth 20000 in
set_option maxHeartbeats 4000000 in
theorem Positions_ok (D : Nat → Prop) (w : World) (l : List Value) (T : Nd) (hT : NodeL D w l T) :
    Calls Try.prog 15 #[.agg l.toArray] w fun e w' => e = .returned (.int .i64 T.posns) ∧ Ext w w' := by
  have hT := hT.lt
  obtain ⟨sl, rfl, hts⟩ := hT.opn
  obtain ⟨a, cap, rfl, hlen, -⟩ := hts.get
  refine Calls.enter (args := [.agg #[.int .u8 T.kind, .int .u64 T.set.a, .int .u64 T.set.b, .int .u64 T.set.c, .int .u64 T.set.d, .int .i64 T.least, .int .i64 T.most, .slice a T.subs.length cap]]) Try.func15 rfl rfl rfl rfl ?_
  refine WC.seqk ?_
  refine WC.region ?_
  refine WL.box_agg rfl rfl rfl (fun b1 w6 hb2 hE5 hs3 hR4 => ?_)
  refine WL.assign rfl rfl rfl ?_
  refine WL.done' ?_ (fun _ _ h => h)
  refine WC.seqk ?_
  refine WC.seqk ?_
  refine WC.region ?_
  refine WL.load_box rfl rfl rfl hR4 Ty.agg29 ?_
  refine WL.call rfl rfl rfl Ty.ent35 (light_ok _ _ _ _ (hT.ext hE5)) ?_
  rintro _ w8 ⟨rfl, hE7⟩
  have hzhE7 := hE7.size
  refine ⟨_, rfl, ?_⟩
  cases hc9 : Nd.light T with
  | false =>
    refine WL.not rfl rfl rfl ?_
    refine WL.done' ?_ (fun _ _ h => h)
    refine WC.cond_t rfl ?_
    refine WC.seqk ?_
    refine WC.region ?_
    refine WL.assign rfl rfl rfl ?_
    refine WL.done' ?_ (fun _ _ h => h)
    refine WC.ret (fun a_ ha => ?_)
    refine ret_then ?_
    exact bodyPost_tmp rfl ha rfl ⟨(by congr 2; simp only [Nd.posns, hc9]; rfl), (hE5.trans hE7)⟩
  | true =>
    refine WL.not rfl rfl rfl ?_
    refine WL.done' ?_ (fun _ _ h => h)
    refine WC.cond_f rfl ?_
    refine WC.skip'' ?_ (fun _ _ h => h)
    refine WC.seqk ?_
    refine WC.region ?_
    refine WL.load_box rfl rfl rfl (hR4.ext hE7) Ty.agg29 ?_
    have h60 := ((hT.ext hE5).ext hE7)
    refine WL.call rfl rfl rfl Ty.ent39 (positions_ok T _ _ _ h60 (by simpa [Nd.light] using hc9)) ?_
    rintro _ w62 ⟨rfl, hE61⟩
    have hzhE61 := hE61.size
    refine ⟨_, rfl, ?_⟩
    refine WL.assign rfl rfl rfl ?_
    refine WL.done' ?_ (fun _ _ h => h)
    refine WC.ret (fun a_ ha => ?_)
    exact bodyPost_tmp rfl ha rfl ⟨(by congr 2; simp only [Nd.posns, hc9]; rfl), ((hE5.trans hE7).trans hE61)⟩

set_option maxRecDepth 20000 in
set_option maxHeartbeats 4000000 in
theorem check_ok (D : Nat → Prop) (w : World) (b1 b2 : Bool) (l : List Value) (T : Nd) (hT : NodeL D w l T) :
    Calls Try.prog 13 #[.agg (.bool b1 :: .bool b2 :: l).toArray] w fun e w' => e = .returned (.int .i64 T.check) ∧ Ext w w' := by
  have hT := hT.lt
  obtain ⟨sl, rfl, hts⟩ := hT.opn
  obtain ⟨a, cap, rfl, hlen, -⟩ := hts.get
  refine Calls.enter (args := [.agg #[.bool b1, .bool b2, .int .u8 T.kind, .int .u64 T.set.a, .int .u64 T.set.b, .int .u64 T.set.c, .int .u64 T.set.d, .int .i64 T.least, .int .i64 T.most, .slice a T.subs.length cap]]) Try.func13 rfl rfl rfl rfl ?_
  refine WC.seqk ?_
  refine WC.region ?_
  refine WL.box_agg rfl rfl rfl (fun b1 w6 hb2 hE5 hs3 hR4 => ?_)
  refine WL.assign rfl rfl rfl ?_
  refine WL.done' ?_ (fun _ _ h => h)
  refine WC.seqk ?_
  refine WC.block ?_
  refine WC.seqk ?_
  refine WC.region ?_
  refine WL.fieldAddr rfl rfl Ty.fld36_2 rfl ?_
  refine WL.load_part 8 rfl rfl rfl hR4 rfl Ty.agg29 ?_
  refine WL.call rfl rfl rfl Ty.ent12 (clean_ok _ _ _ _ (hT.ext hE5)) ?_
  rintro _ w8 ⟨rfl, hE7⟩
  have hzhE7 := hE7.size
  refine ⟨_, rfl, ?_⟩
  cases hc9 : Nd.clean T with
  | false =>
    refine WL.not rfl rfl rfl ?_
    refine WL.assign rfl rfl rfl ?_
    refine WL.done' ?_ (fun _ _ h => h)
    refine WC.cond_t rfl ?_
    refine WC.seqk ?_
    refine WC.region ?_
    refine WL.assign rfl rfl rfl ?_
    refine WL.done' ?_ (fun _ _ h => h)
    refine WC.ret (fun a_ ha => ?_)
    refine ret_block ?_
    refine ret_then ?_
    exact bodyPost_tmp rfl ha rfl ⟨(by congr 2; clear ha; simp [Nd.check, hc9] at *; all_goals omega), (hE5.trans hE7)⟩
  | true =>
    refine WL.not rfl rfl rfl ?_
    refine WL.assign rfl rfl rfl ?_
    refine WL.done' ?_ (fun _ _ h => h)
    refine WC.cond_f rfl ?_
    refine WC.seqk ?_
    refine WC.region ?_
    refine WL.fieldAddr rfl rfl Ty.fld36_2 rfl ?_
    refine WL.load_part 8 rfl rfl rfl (hR4.ext hE7) rfl Ty.agg29 ?_
    have h60 := ((hT.ext hE5).ext hE7)
    refine WL.call rfl rfl rfl Ty.ent16 (size_ok _ _ _ _ h60) ?_
    rintro _ w62 ⟨rfl, hE61⟩
    have hzhE61 := hE61.size
    refine ⟨_, rfl, ?_⟩
    cases hc63 : decide ((120 : Int) < (Nd.sizes T)) with
    | false =>
      refine WL.gtr rfl rfl rfl rfl hc63 ?_
      have hp63 := of_decide_eq_false hc63
      refine WL.assign rfl rfl rfl ?_
      refine WL.done' ?_ (fun _ _ h => h)
      refine WC.cond_f rfl ?_
      refine WC.seqk ?_
      refine WC.weaken (r' := [(1, .pointer (some ⟨b1, 0, none⟩)), (2, .int .i64 0), (3, .bool false), (8, .bool false)]) (subReg_cons rfl (subReg_cons rfl (subReg_cons rfl (subReg_cons rfl (subReg_nil _))))) ?_
      refine WC.region ?_
      refine WL.fieldAddr rfl rfl Ty.fld36_2 rfl ?_
      have h64 := ((hR4.ext hE7).ext hE61)
      refine WL.load_part 8 rfl rfl rfl h64 rfl Ty.agg29 ?_
      refine WL.call rfl rfl rfl Ty.ent15 (Positions_ok _ _ _ _ (h60.ext hE61)) ?_
      rintro _ w66 ⟨rfl, hE65⟩
      have hzhE65 := hE65.size
      refine ⟨_, rfl, ?_⟩
      cases hc67 : decide ((400 : Int) < (Nd.posns T)) with
      | false =>
        refine WL.gtr rfl rfl rfl rfl hc67 ?_
        have hp67 := of_decide_eq_false hc67
        refine WL.assign rfl rfl rfl ?_
        refine WL.done' ?_ (fun _ _ h => h)
        refine WC.cond_f rfl ?_
        refine WC.seqk ?_
        refine WC.region ?_
        refine WL.fieldAddr rfl rfl Ty.fld36_2 rfl ?_
        refine WL.load_part 8 rfl rfl rfl (h64.ext hE65) rfl Ty.agg29 ?_
        have h68 := ((h60.ext hE61).ext hE65)
        refine WL.call rfl rfl rfl Ty.ent17 (groups_ok _ _ _ _ h68) ?_
        rintro _ w70 ⟨rfl, hE69⟩
        have hzhE69 := hE69.size
        refine ⟨_, rfl, ?_⟩
        cases hc71 : decide ((9 : Int) < (Nd.groups T)) with
        | false =>
          refine WL.gtr rfl rfl rfl rfl hc71 ?_
          have hp71 := of_decide_eq_false hc71
          refine WL.assign rfl rfl rfl ?_
          refine WL.done' ?_ (fun _ _ h => h)
          refine WC.cond_f rfl ?_
          refine WC.skip'' ?_ (fun _ _ h => h)
          refine WC.seqk ?_
          refine WC.weaken (r' := [(2, .int .i64 0), (3, .bool false), (8, .bool false), (13, .bool false), (18, .bool false)]) (subReg_cons rfl (subReg_cons rfl (subReg_cons rfl (subReg_cons rfl (subReg_cons rfl (subReg_nil _)))))) ?_
          refine WC.region ?_
          refine WL.assign rfl rfl rfl ?_
          refine WL.done' ?_ (fun _ _ h => h)
          refine WC.ret (fun a_ ha => ?_)
          exact bodyPost_tmp rfl ha rfl ⟨(by congr 2; clear ha; simp [Nd.check, hc9, hc63, hc67, hc71] at *; all_goals omega), ((((hE5.trans hE7).trans hE61).trans hE65).trans hE69)⟩
        | true =>
          refine WL.gtr rfl rfl rfl rfl hc71 ?_
          have hp71 := of_decide_eq_true hc71
          refine WL.assign rfl rfl rfl ?_
          refine WL.done' ?_ (fun _ _ h => h)
          refine WC.cond_t rfl ?_
          refine WC.seqk ?_
          refine WC.weaken (r' := [(2, .int .i64 0), (3, .bool false), (8, .bool false), (13, .bool false), (18, .bool true)]) (subReg_cons rfl (subReg_cons rfl (subReg_cons rfl (subReg_cons rfl (subReg_cons rfl (subReg_nil _)))))) ?_
          refine WC.region ?_
          refine WL.assign rfl rfl rfl ?_
          refine WL.done' ?_ (fun _ _ h => h)
          refine WC.ret (fun a_ ha => ?_)
          refine ret_block ?_
          refine ret_then ?_
          exact bodyPost_tmp rfl ha rfl ⟨(by congr 2; clear ha; simp [Nd.check, hc9, hc63, hc67, hc71] at *; all_goals omega), ((((hE5.trans hE7).trans hE61).trans hE65).trans hE69)⟩
      | true =>
        refine WL.gtr rfl rfl rfl rfl hc67 ?_
        have hp67 := of_decide_eq_true hc67
        refine WL.assign rfl rfl rfl ?_
        refine WL.done' ?_ (fun _ _ h => h)
        refine WC.cond_t rfl ?_
        refine WC.seqk ?_
        refine WC.region ?_
        refine WL.assign rfl rfl rfl ?_
        refine WL.done' ?_ (fun _ _ h => h)
        refine WC.ret (fun a_ ha => ?_)
        refine ret_block ?_
        refine ret_then ?_
        exact bodyPost_tmp rfl ha rfl ⟨(by congr 2; clear ha; simp [Nd.check, hc9, hc63, hc67] at *; all_goals omega), (((hE5.trans hE7).trans hE61).trans hE65)⟩
    | true =>
      refine WL.gtr rfl rfl rfl rfl hc63 ?_
      have hp63 := of_decide_eq_true hc63
      refine WL.assign rfl rfl rfl ?_
      refine WL.done' ?_ (fun _ _ h => h)
      refine WC.cond_t rfl ?_
      refine WC.seqk ?_
      refine WC.weaken (r' := [(1, .pointer (some ⟨b1, 0, none⟩)), (2, .int .i64 0), (3, .bool false), (8, .bool true)]) (subReg_cons rfl (subReg_cons rfl (subReg_cons rfl (subReg_cons rfl (subReg_nil _))))) ?_
      refine WC.region ?_
      refine WL.assign rfl rfl rfl ?_
      refine WL.done' ?_ (fun _ _ h => h)
      refine WC.ret (fun a_ ha => ?_)
      refine ret_block ?_
      refine ret_then ?_
      exact bodyPost_tmp rfl ha rfl ⟨(by congr 2; clear ha; simp [Nd.check, hc9, hc63] at *; all_goals omega), ((hE5.trans hE7).trans hE61)⟩

set_option maxRecDepth 20000 in
set_option maxHeartbeats 4000000 in
theorem cat_ok (D : Nat → Prop) (w : World) (a : Option Addr) (cap : Nat) (ts : List Nd) (hts : NodesV D w (.slice a ts.length cap) ts) :
    Calls Try.prog 21 #[.slice a ts.length cap] w fun e w' => ∃ l', e = .returned (.agg l'.toArray) ∧ NodeL (fun k => D k ∨ w.heap.size ≤ k) w' l' (Nd.mk 3 Nd.zero 0 0 ts) ∧ Ext w w' := by
  have hlen := hts.len
  have hts := hts.lt
  refine Calls.enter (args := [.slice a ts.length cap]) Try.func21 rfl rfl rfl rfl ?_
  refine WC.seqk ?_
  refine WC.region ?_
  refine WL.alloc rfl rfl Ty.zero29 rfl (fun b1 w6 hb2 hE5 hs3 hR4 => ?_)
  refine WL.done' ?_ (fun _ _ h => h)
  refine WC.seqk ?_
  refine WC.region ?_
  refine WL.move rfl rfl rfl ?_
  refine WL.build (l := [.int .u8 3, .int .u64 0, .int .u64 0, .int .u64 0, .int .u64 0, .int .i64 0, .int .i64 0, .slice a ts.length cap]) rfl rfl Ty.zero29 Ty.st29 ⟨⟨rfl, rfl⟩, (by kernel_rfl)⟩ ?_
  have hn7 : NodeL _ w6 [.int .u8 3, .int .u64 0, .int .u64 0, .int .u64 0, .int .u64 0, .int .i64 0, .int .i64 0, .slice a ts.length cap] (Nd.mk 3 Nd.zero 0 0 ts) := NodeL.shut (k := 3) (s := Nd.zero) (mn := 0) (mx := 0) (sl := .slice a ts.length cap) (ts := ts) (hts.ext hE5)
  have hn7 := hn7.lt
  refine WL.store_box rfl rfl rfl hR4 Ty.agg29 rfl rfl (fun w10 hB9 hR8 => ?_)
  have hzhB9 := hB9.size
  refine WL.done' ?_ (fun _ _ h => h)
  refine WC.ret (fun a_ ha => ?_)
  exact bodyPost_cell (l := [.int .u8 3, .int .u64 0, .int .u64 0, .int .u64 0, .int .u64 0, .int .i64 0, .int .i64 0, .slice a ts.length cap]) rfl ha rfl Ty.agg29 hR8 ⟨_, rfl, (hn7.but hB9 (by intro h1; first | omega | ((try dsimp only at h1); (repeat' first | (guard_hyp h1 : _ ∨ _; refine Or.elim h1 (fun h1 => ?_) (fun h1 => ?_)) | (guard_hyp h1 : _ ∧ _; have hx := h1.2; replace h1 := h1.1)) <;> first | contradiction | omega))).dom (by intro k h1; (try dsimp only at h1); (repeat' first | (guard_hyp h1 : _ ∨ _; refine Or.elim h1 (fun h1 => ?_) (fun h1 => ?_)) | (guard_hyp h1 : _ ∧ _; have hx := h1.2; replace h1 := h1.1)) <;> first | contradiction | exact .inl h1 | exact .inr (by omega)), (hB9.onto hE5 (by omega))⟩

set_option maxRecDepth 20000 in
set_option maxHeartbeats 4000000 in
theorem alt_ok (D : Nat → Prop) (w : World) (a : Option Addr) (cap : Nat) (ts : List Nd) (hts : NodesV D w (.slice a ts.length cap) ts) :
    Calls Try.prog 22 #[.slice a ts.length cap] w fun e w' => ∃ l', e = .returned (.agg l'.toArray) ∧ NodeL (fun k => D k ∨ w.heap.size ≤ k) w' l' (Nd.mk 4 Nd.zero 0 0 ts) ∧ Ext w w' := by
  have hlen := hts.len
  have hts := hts.lt
  refine Calls.enter (args := [.slice a ts.length cap]) Try.func22 rfl rfl rfl rfl ?_
  refine WC.seqk ?_
  refine WC.region ?_
  refine WL.alloc rfl rfl Ty.zero29 rfl (fun b1 w6 hb2 hE5 hs3 hR4 => ?_)
  refine WL.done' ?_ (fun _ _ h => h)
  refine WC.seqk ?_
  refine WC.region ?_
  refine WL.move rfl rfl rfl ?_
  refine WL.build (l := [.int .u8 4, .int .u64 0, .int .u64 0, .int .u64 0, .int .u64 0, .int .i64 0, .int .i64 0, .slice a ts.length cap]) rfl rfl Ty.zero29 Ty.st29 ⟨⟨rfl, rfl⟩, (by kernel_rfl)⟩ ?_
  have hn7 : NodeL _ w6 [.int .u8 4, .int .u64 0, .int .u64 0, .int .u64 0, .int .u64 0, .int .i64 0, .int .i64 0, .slice a ts.length cap] (Nd.mk 4 Nd.zero 0 0 ts) := NodeL.shut (k := 4) (s := Nd.zero) (mn := 0) (mx := 0) (sl := .slice a ts.length cap) (ts := ts) (hts.ext hE5)
  have hn7 := hn7.lt
  refine WL.store_box rfl rfl rfl hR4 Ty.agg29 rfl rfl (fun w10 hB9 hR8 => ?_)
  have hzhB9 := hB9.size
  refine WL.done' ?_ (fun _ _ h => h)
  refine WC.ret (fun a_ ha => ?_)
  exact bodyPost_cell (l := [.int .u8 4, .int .u64 0, .int .u64 0, .int .u64 0, .int .u64 0, .int .i64 0, .int .i64 0, .slice a ts.length cap]) rfl ha rfl Ty.agg29 hR8 ⟨_, rfl, (hn7.but hB9 (by intro h1; first | omega | ((try dsimp only at h1); (repeat' first | (guard_hyp h1 : _ ∨ _; refine Or.elim h1 (fun h1 => ?_) (fun h1 => ?_)) | (guard_hyp h1 : _ ∧ _; have hx := h1.2; replace h1 := h1.1)) <;> first | contradiction | omega))).dom (by intro k h1; (try dsimp only at h1); (repeat' first | (guard_hyp h1 : _ ∨ _; refine Or.elim h1 (fun h1 => ?_) (fun h1 => ?_)) | (guard_hyp h1 : _ ∧ _; have hx := h1.2; replace h1 := h1.1)) <;> first | contradiction | exact .inl h1 | exact .inr (by omega)), (hB9.onto hE5 (by omega))⟩

set_option maxRecDepth 20000 in
set_option maxHeartbeats 4000000 in
theorem rep_ok (D : Nat → Prop) (w : World) (l : List Value) (T : Nd) (mn mx : Int) (hT : NodeL D w l T) :
    Calls Try.prog 23 #[.agg l.toArray, .int .i64 mn, .int .i64 mx] w fun e w' => ∃ l', e = .returned (.agg l'.toArray) ∧ NodeL (fun k => D k ∨ w.heap.size ≤ k) w' l' (Nd.mk 5 Nd.zero mn mx [T]) ∧ Ext w w' := by
  have hT := hT.lt
  obtain ⟨sl, rfl, hts⟩ := hT.opn
  obtain ⟨a, cap, rfl, hlen, -⟩ := hts.get
  refine Calls.enter (args := [.agg #[.int .u8 T.kind, .int .u64 T.set.a, .int .u64 T.set.b, .int .u64 T.set.c, .int .u64 T.set.d, .int .i64 T.least, .int .i64 T.most, .slice a T.subs.length cap], .int .i64 mn, .int .i64 mx]) Try.func23 rfl rfl rfl rfl ?_
  refine WC.seqk ?_
  refine WC.region ?_
  refine WL.box_agg rfl rfl rfl (fun b1 w6 hb2 hE5 hs3 hR4 => ?_)
  refine WL.alloc rfl rfl Ty.zero29 rfl (fun b7 w12 hb8 hE11 hs9 hR10 => ?_)
  refine WL.done' ?_ (fun _ _ h => h)
  refine WC.seqk ?_
  refine WC.region ?_
  refine WL.move rfl rfl rfl ?_
  refine WL.move rfl rfl rfl ?_
  refine WL.load_box rfl rfl rfl (hR4.ext hE11) Ty.agg29 ?_
  have h13 := ((hT.ext hE5).ext hE11)
  refine WL.buildSlice (vs := [.agg #[.int .u8 T.kind, .int .u64 T.set.a, .int .u64 T.set.b, .int .u64 T.set.c, .int .u64 T.set.d, .int .i64 T.least, .int .i64 T.most, .slice a T.subs.length cap]]) (cells := [.int .u8 T.kind, .int .u64 T.set.a, .int .u64 T.set.b, .int .u64 T.set.c, .int .u64 T.set.d, .int .i64 T.least, .int .i64 T.most, .slice a T.subs.length cap]) rfl rfl Ty.slice27 Ty.zero29 rfl rfl rfl rfl rfl rfl (fun b14 w19 hb15 hE18 hs16 hR17 => ?_)
  have hts14 := (NodesV.lit (n := 1) (ts := [T]) hR17 (RowsL.cons (h13.ext hE18) (RowsL.nil' _)) rfl rfl (by decide)).lt
  refine WL.build (l := [.int .u8 5, .int .u64 0, .int .u64 0, .int .u64 0, .int .u64 0, .int .i64 mn, .int .i64 mx, .slice (some ⟨b14, 0, none⟩) 1 1]) rfl rfl Ty.zero29 Ty.st29 ⟨⟨rfl, rfl⟩, (by kernel_rfl)⟩ ?_
  have hn20 : NodeL _ w19 [.int .u8 5, .int .u64 0, .int .u64 0, .int .u64 0, .int .u64 0, .int .i64 mn, .int .i64 mx, .slice (some ⟨b14, 0, none⟩) 1 1] (Nd.mk 5 Nd.zero mn mx ([T])) := NodeL.shut (k := 5) (s := Nd.zero) (mn := mn) (mx := mx) (sl := .slice (some ⟨b14, 0, none⟩) 1 1) (ts := [T]) hts14
  have hn20 := hn20.lt
  refine WL.store_box rfl rfl rfl (hR10.ext hE18) Ty.agg29 rfl rfl (fun w23 hB22 hR21 => ?_)
  have hzhB22 := hB22.size
  refine WL.done' ?_ (fun _ _ h => h)
  refine WC.ret (fun a_ ha => ?_)
  exact bodyPost_cell (l := [.int .u8 5, .int .u64 0, .int .u64 0, .int .u64 0, .int .u64 0, .int .i64 mn, .int .i64 mx, .slice (some ⟨b14, 0, none⟩) 1 1]) rfl ha rfl Ty.agg29 hR21 ⟨_, rfl, (hn20.but hB22 (by intro h1; first | omega | ((try dsimp only at h1); (repeat' first | (guard_hyp h1 : _ ∨ _; refine Or.elim h1 (fun h1 => ?_) (fun h1 => ?_)) | (guard_hyp h1 : _ ∧ _; have hx := h1.2; replace h1 := h1.1)) <;> first | contradiction | omega))).dom (by intro k h1; (try dsimp only at h1); (repeat' first | (guard_hyp h1 : _ ∨ _; refine Or.elim h1 (fun h1 => ?_) (fun h1 => ?_)) | (guard_hyp h1 : _ ∧ _; have hx := h1.2; replace h1 := h1.1)) <;> first | contradiction | exact .inl h1 | exact .inr (by omega)), (hB22.onto ((hE5.trans hE11).trans hE18) (by omega))⟩

set_option maxRecDepth 20000 in
set_option maxHeartbeats 4000000 in
theorem group_ok (D : Nat → Prop) (w : World) (l : List Value) (T : Nd) (hT : NodeL D w l T) :
    Calls Try.prog 24 #[.agg l.toArray] w fun e w' => ∃ l', e = .returned (.agg l'.toArray) ∧ NodeL (fun k => D k ∨ w.heap.size ≤ k) w' l' (Nd.mk 6 Nd.zero 0 0 [T]) ∧ Ext w w' := by
  have hT := hT.lt
  obtain ⟨sl, rfl, hts⟩ := hT.opn
  obtain ⟨a, cap, rfl, hlen, -⟩ := hts.get
  refine Calls.enter (args := [.agg #[.int .u8 T.kind, .int .u64 T.set.a, .int .u64 T.set.b, .int .u64 T.set.c, .int .u64 T.set.d, .int .i64 T.least, .int .i64 T.most, .slice a T.subs.length cap]]) Try.func24 rfl rfl rfl rfl ?_
  refine WC.seqk ?_
  refine WC.region ?_
  refine WL.box_agg rfl rfl rfl (fun b1 w6 hb2 hE5 hs3 hR4 => ?_)
  refine WL.alloc rfl rfl Ty.zero29 rfl (fun b7 w12 hb8 hE11 hs9 hR10 => ?_)
  refine WL.done' ?_ (fun _ _ h => h)
  refine WC.seqk ?_
  refine WC.region ?_
  refine WL.load_box rfl rfl rfl (hR4.ext hE11) Ty.agg29 ?_
  have h13 := ((hT.ext hE5).ext hE11)
  refine WL.buildSlice (vs := [.agg #[.int .u8 T.kind, .int .u64 T.set.a, .int .u64 T.set.b, .int .u64 T.set.c, .int .u64 T.set.d, .int .i64 T.least, .int .i64 T.most, .slice a T.subs.length cap]]) (cells := [.int .u8 T.kind, .int .u64 T.set.a, .int .u64 T.set.b, .int .u64 T.set.c, .int .u64 T.set.d, .int .i64 T.least, .int .i64 T.most, .slice a T.subs.length cap]) rfl rfl Ty.slice27 Ty.zero29 rfl rfl rfl rfl rfl rfl (fun b14 w19 hb15 hE18 hs16 hR17 => ?_)
  have hts14 := (NodesV.lit (n := 1) (ts := [T]) hR17 (RowsL.cons (h13.ext hE18) (RowsL.nil' _)) rfl rfl (by decide)).lt
  refine WL.build (l := [.int .u8 6, .int .u64 0, .int .u64 0, .int .u64 0, .int .u64 0, .int .i64 0, .int .i64 0, .slice (some ⟨b14, 0, none⟩) 1 1]) rfl rfl Ty.zero29 Ty.st29 ⟨⟨rfl, rfl⟩, (by kernel_rfl)⟩ ?_
  have hn20 : NodeL _ w19 [.int .u8 6, .int .u64 0, .int .u64 0, .int .u64 0, .int .u64 0, .int .i64 0, .int .i64 0, .slice (some ⟨b14, 0, none⟩) 1 1] (Nd.mk 6 Nd.zero 0 0 ([T])) := NodeL.shut (k := 6) (s := Nd.zero) (mn := 0) (mx := 0) (sl := .slice (some ⟨b14, 0, none⟩) 1 1) (ts := [T]) hts14
  have hn20 := hn20.lt
  refine WL.store_box rfl rfl rfl (hR10.ext hE18) Ty.agg29 rfl rfl (fun w23 hB22 hR21 => ?_)
  have hzhB22 := hB22.size
  refine WL.done' ?_ (fun _ _ h => h)
  refine WC.ret (fun a_ ha => ?_)
  exact bodyPost_cell (l := [.int .u8 6, .int .u64 0, .int .u64 0, .int .u64 0, .int .u64 0, .int .i64 0, .int .i64 0, .slice (some ⟨b14, 0, none⟩) 1 1]) rfl ha rfl Ty.agg29 hR21 ⟨_, rfl, (hn20.but hB22 (by intro h1; first | omega | ((try dsimp only at h1); (repeat' first | (guard_hyp h1 : _ ∨ _; refine Or.elim h1 (fun h1 => ?_) (fun h1 => ?_)) | (guard_hyp h1 : _ ∧ _; have hx := h1.2; replace h1 := h1.1)) <;> first | contradiction | omega))).dom (by intro k h1; (try dsimp only at h1); (repeat' first | (guard_hyp h1 : _ ∨ _; refine Or.elim h1 (fun h1 => ?_) (fun h1 => ?_)) | (guard_hyp h1 : _ ∧ _; have hx := h1.2; replace h1 := h1.1)) <;> first | contradiction | exact .inl h1 | exact .inr (by omega)), (hB22.onto ((hE5.trans hE11).trans hE18) (by omega))⟩

end Go.Proofs.Ytaggidjijekpbaa
