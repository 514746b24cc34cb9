/- Walks through the program's functions: each computes what the plain Lean function says. Printed by our own gen/r8.py. -/
import Derived.Test.YtaggidjijekpbaaF
import Derived.Test.YtaggidjijekpbaaBytes
import Derived.Test.YtaggidjijekpbaaPel
import Derived.Test.YtaggidjijekpbaaOrd
import Derived.KernelRfl
namespace Go.Proofs.Ytaggidjijekpbaa
open Go.Proofs Go.RowKit

set_option maxRecDepth 20000 in
set_option maxHeartbeats 4000000 in
theorem cmpS_ok (w : World) (s t : S4) (hsok : Nd.SOk s) :
    Calls Try.prog 51 #[.agg #[.int .u64 s.a, .int .u64 s.b, .int .u64 s.c, .int .u64 s.d], .agg #[.int .u64 t.a, .int .u64 t.b, .int .u64 t.c, .int .u64 t.d]] w fun e w' => e = .returned (.int .i64 (Nd.cmpS s t)) ∧ Ext w w' := by
  refine Calls.enter (args := [.agg #[.int .u64 s.a, .int .u64 s.b, .int .u64 s.c, .int .u64 s.d], .agg #[.int .u64 t.a, .int .u64 t.b, .int .u64 t.c, .int .u64 t.d]]) Try.func51 rfl rfl rfl rfl ?_
  refine WC.seqk ?_
  refine WC.region ?_
  refine WL.box_agg rfl rfl rfl (fun b1 w6 hb2 hE5 hs3 hR4 => ?_)
  refine WL.box_agg rfl rfl rfl (fun b7 w12 hb8 hE11 hs9 hR10 => ?_)
  refine WL.assign rfl rfl rfl ?_
  refine WL.done' ?_ (fun _ _ h => h)
  refine WC.seqk ?_
  cases hF : Nd.firstS (Nd.orS (Nd.lessS s t) (Nd.lessS t s)) with
  | none =>
    refine WC.weaken (r' := [(2, .pointer (some ⟨b1, 0, none⟩)), (3, .pointer (some ⟨b7, 0, none⟩)), (4, .int .i64 0)]) (subReg_cons rfl (subReg_cons rfl (subReg_cons rfl (subReg_nil _)))) ?_
    refine WC.draw 12 [8, 9, 10, 11, 12, 13, 14, 15, 7, 16, 17, 5] [pc (.agg #[.int .u64 s.a, .int .u64 s.b, .int .u64 s.c, .int .u64 s.d]), pc (.agg #[.int .u64 t.a, .int .u64 t.b, .int .u64 t.c, .int .u64 t.d]), pc (.agg #[.int .u64 (Nd.lessS s t).a, .int .u64 (Nd.lessS s t).b, .int .u64 (Nd.lessS s t).c, .int .u64 (Nd.lessS s t).d]), pc (.agg #[.int .u64 t.a, .int .u64 t.b, .int .u64 t.c, .int .u64 t.d]), pc (.agg #[.int .u64 s.a, .int .u64 s.b, .int .u64 s.c, .int .u64 s.d]), pc (.agg #[.int .u64 (Nd.lessS t s).a, .int .u64 (Nd.lessS t s).b, .int .u64 (Nd.lessS t s).c, .int .u64 (Nd.lessS t s).d]), pc (.agg #[.int .u64 (Nd.orS (Nd.lessS s t) (Nd.lessS t s)).a, .int .u64 (Nd.orS (Nd.lessS s t) (Nd.lessS t s)).b, .int .u64 (Nd.orS (Nd.lessS s t) (Nd.lessS t s)).c, .int .u64 (Nd.orS (Nd.lessS s t) (Nd.lessS t s)).d]), pc (.tuple #[.int .u8 0, .bool false]), pc (.tuple #[.int .u8 0, .bool false]), pc (.int .u8 0), pc (.bool false), pc (.int .u8 0)] (by kernel_rfl) (by kernel_rfl) ⟨KW_pc _, KW_pc _, KW_pc _, KW_pc _, KW_pc _, KW_pc _, KW_pc _, KW_pc _, KW_pc _, KW_pc _, KW_pc _, KW_pc _, trivial⟩ rfl rfl rfl (StepsOn.cons ?_ (StepsOn.cons ?_ (StepsOn.cons ?_ (StepsOn.cons ?_ (StepsOn.cons ?_ (StepsOn.cons ?_ (StepsOn.cons ?_ (StepsOn.cons ?_ (StepsOn.cons ?_ (StepsOn.cons ?_ (StepsOn.cons ?_ (StepsOn.cons ?_ (StepsOn.nil _))))))))))))) ?_
    · intro σ β w1 hE1 hbi hk
      have hz1 := hE1.size
      refine ⟨[], (agree_nil _), ?_⟩
      have h1113 := ((hR4.ext hE11).ext hE1)
      refine WL.load_box rfl rfl rfl h1113 Ty.agg26 ?_
      refine WL.nil (fun a_ ha => ?_)
      exact ⟨_, β, ha, (Ext.refl _), BExt.refl _ _, hbi.ext (Ext.refl _), rfl⟩
    · intro σ β w1 hE1 hbi hk
      have hz1 := hE1.size
      refine ⟨[], (agree_nil _), ?_⟩
      refine WL.load_box rfl rfl rfl (hR10.ext hE1) Ty.agg26 ?_
      refine WL.nil (fun a_ ha => ?_)
      exact ⟨_, β, ha, (Ext.refl _), BExt.refl _ _, hbi.ext (Ext.refl _), rfl⟩
    · intro σ β w1 hE1 hbi hk
      have hz1 := hE1.size
      obtain ⟨_, hv1313, rfl⟩ := hk 0 (by kernel_rfl) _ _ rfl rfl
      obtain ⟨_, hv1314, rfl⟩ := hk 1 (by kernel_rfl) _ _ rfl rfl
      refine ⟨[(8, .agg #[.int .u64 s.a, .int .u64 s.b, .int .u64 s.c, .int .u64 s.d]), (9, .agg #[.int .u64 t.a, .int .u64 t.b, .int .u64 t.c, .int .u64 t.d])], (agree_cons (look_right rfl hv1313) (agree_cons (look_right rfl hv1314) (agree_nil _))), ?_⟩
      refine WL.call rfl rfl rfl Ty.ent61 (setLess_ok _ s t) ?_
      rintro _ w1316 ⟨rfl, hE1315⟩
      have hzhE1315 := hE1315.size
      refine ⟨_, rfl, ?_⟩
      refine WL.nil (fun a_ ha => ?_)
      exact ⟨_, β, ha, hE1315, BExt.refl _ _, hbi.ext hE1315, rfl⟩
    · intro σ β w1 hE1 hbi hk
      have hz1 := hE1.size
      refine ⟨[], (agree_nil _), ?_⟩
      refine WL.load_box rfl rfl rfl (hR10.ext hE1) Ty.agg26 ?_
      refine WL.nil (fun a_ ha => ?_)
      exact ⟨_, β, ha, (Ext.refl _), BExt.refl _ _, hbi.ext (Ext.refl _), rfl⟩
    · intro σ β w1 hE1 hbi hk
      have hz1 := hE1.size
      refine ⟨[], (agree_nil _), ?_⟩
      have h1513 := ((hR4.ext hE11).ext hE1)
      refine WL.load_box rfl rfl rfl h1513 Ty.agg26 ?_
      refine WL.nil (fun a_ ha => ?_)
      exact ⟨_, β, ha, (Ext.refl _), BExt.refl _ _, hbi.ext (Ext.refl _), rfl⟩
    · intro σ β w1 hE1 hbi hk
      have hz1 := hE1.size
      obtain ⟨_, hv1613, rfl⟩ := hk 3 (by kernel_rfl) _ _ rfl rfl
      obtain ⟨_, hv1614, rfl⟩ := hk 4 (by kernel_rfl) _ _ rfl rfl
      refine ⟨[(11, .agg #[.int .u64 t.a, .int .u64 t.b, .int .u64 t.c, .int .u64 t.d]), (12, .agg #[.int .u64 s.a, .int .u64 s.b, .int .u64 s.c, .int .u64 s.d])], (agree_cons (look_right rfl hv1613) (agree_cons (look_right rfl hv1614) (agree_nil _))), ?_⟩
      refine WL.call rfl rfl rfl Ty.ent61 (setLess_ok _ t s) ?_
      rintro _ w1616 ⟨rfl, hE1615⟩
      have hzhE1615 := hE1615.size
      refine ⟨_, rfl, ?_⟩
      refine WL.nil (fun a_ ha => ?_)
      exact ⟨_, β, ha, hE1615, BExt.refl _ _, hbi.ext hE1615, rfl⟩
    · intro σ β w1 hE1 hbi hk
      have hz1 := hE1.size
      obtain ⟨_, hv1713, rfl⟩ := hk 2 (by kernel_rfl) _ _ rfl rfl
      obtain ⟨_, hv1714, rfl⟩ := hk 5 (by kernel_rfl) _ _ rfl rfl
      refine ⟨[(10, .agg #[.int .u64 (Nd.lessS s t).a, .int .u64 (Nd.lessS s t).b, .int .u64 (Nd.lessS s t).c, .int .u64 (Nd.lessS s t).d]), (13, .agg #[.int .u64 (Nd.lessS t s).a, .int .u64 (Nd.lessS t s).b, .int .u64 (Nd.lessS t s).c, .int .u64 (Nd.lessS t s).d])], (agree_cons (look_right rfl hv1713) (agree_cons (look_right rfl hv1714) (agree_nil _))), ?_⟩
      refine WL.call rfl rfl rfl Ty.ent60 (setOr_ok _ (Nd.lessS s t) (Nd.lessS t s)) ?_
      rintro _ w1716 ⟨rfl, hE1715⟩
      have hzhE1715 := hE1715.size
      refine ⟨_, rfl, ?_⟩
      refine WL.nil (fun a_ ha => ?_)
      exact ⟨_, β, ha, hE1715, BExt.refl _ _, hbi.ext hE1715, rfl⟩
    · intro σ β w1 hE1 hbi hk
      have hz1 := hE1.size
      obtain ⟨_, hv1813, rfl⟩ := hk 6 (by kernel_rfl) _ _ rfl rfl
      refine ⟨[(14, .agg #[.int .u64 (Nd.orS (Nd.lessS s t) (Nd.lessS t s)).a, .int .u64 (Nd.orS (Nd.lessS s t) (Nd.lessS t s)).b, .int .u64 (Nd.orS (Nd.lessS s t) (Nd.lessS t s)).c, .int .u64 (Nd.orS (Nd.lessS s t) (Nd.lessS t s)).d])], (agree_cons (look_right rfl hv1813) (agree_nil _)), ?_⟩
      refine WL.call rfl rfl rfl Ty.ent59 (first_at _ (Nd.orS (Nd.lessS s t) (Nd.lessS t s)) (Nd.each_ok Nd.orI_ok _ _) hF) ?_
      rintro _ w1815 ⟨rfl, hE1814⟩
      have hzhE1814 := hE1814.size
      refine ⟨_, rfl, ?_⟩
      refine WL.nil (fun a_ ha => ?_)
      exact ⟨_, β, ha, hE1814, BExt.refl _ _, hbi.ext hE1814, rfl⟩
    · intro σ β w1 hE1 hbi hk
      have hz1 := hE1.size
      obtain ⟨_, hv1913, rfl⟩ := hk 7 (by kernel_rfl) _ _ rfl rfl
      refine ⟨[(15, .tuple #[.int .u8 0, .bool false])], (agree_cons (look_right rfl hv1913) (agree_nil _)), ?_⟩
      refine WL.move rfl rfl rfl ?_
      refine WL.nil (fun a_ ha => ?_)
      exact ⟨_, β, ha, (Ext.refl _), BExt.refl _ _, hbi.ext (Ext.refl _), rfl⟩
    · intro σ β w1 hE1 hbi hk
      have hz1 := hE1.size
      obtain ⟨_, hv2013, rfl⟩ := hk 8 (by kernel_rfl) _ _ rfl rfl
      refine ⟨[(7, .tuple #[.int .u8 0, .bool false])], (agree_cons (look_right rfl hv2013) (agree_nil _)), ?_⟩
      refine WL.extract rfl rfl rfl rfl ?_
      refine WL.nil (fun a_ ha => ?_)
      exact ⟨_, β, ha, (Ext.refl _), BExt.refl _ _, hbi.ext (Ext.refl _), rfl⟩
    · intro σ β w1 hE1 hbi hk
      have hz1 := hE1.size
      obtain ⟨_, hv2113, rfl⟩ := hk 8 (by kernel_rfl) _ _ rfl rfl
      refine ⟨[(7, .tuple #[.int .u8 0, .bool false])], (agree_cons (look_right rfl hv2113) (agree_nil _)), ?_⟩
      refine WL.extract rfl rfl rfl rfl ?_
      refine WL.nil (fun a_ ha => ?_)
      exact ⟨_, β, ha, (Ext.refl _), BExt.refl _ _, hbi.ext (Ext.refl _), rfl⟩
    · intro σ β w1 hE1 hbi hk
      have hz1 := hE1.size
      obtain ⟨_, hv2213, rfl⟩ := hk 9 (by kernel_rfl) _ _ rfl rfl
      refine ⟨[(16, .int .u8 0)], (agree_cons (look_right rfl hv2213) (agree_nil _)), ?_⟩
      refine WL.assign rfl rfl rfl ?_
      refine WL.nil (fun a_ ha => ?_)
      exact ⟨_, β, ha, (Ext.refl _), BExt.refl _ _, hbi.ext (Ext.refl _), rfl⟩
    intro σ β w912 hE912 hbi912 hk
    have hz912 := hE912.size
    have hbi := hbi912
    obtain ⟨_, hv913, rfl⟩ := hk 10 (by decide) _ _ rfl rfl
    obtain ⟨_, hv914, rfl⟩ := hk 11 (by decide) _ _ rfl rfl
    refine WL.know [(17, .bool false), (5, .int .u8 0)] (agree_cons (look_right rfl hv913) (agree_cons (look_right rfl hv914) (agree_nil _))) ?_
    refine WL.assign rfl rfl rfl ?_
    refine WL.done' ?_ (fun _ _ h => h)
    refine WC.seqk ?_
    refine WC.block ?_
    refine WC.seqk ?_
    refine WC.region ?_
    refine WL.move rfl rfl rfl ?_
    refine WL.not rfl rfl rfl ?_
    refine WL.assign rfl rfl rfl ?_
    refine WL.done' ?_ (fun _ _ h => h)
    refine WC.cond_t rfl ?_
    refine WC.seqk ?_
    refine WC.region ?_
    refine WL.assign rfl rfl rfl ?_
    refine WL.done' ?_ (fun _ _ h => h)
    refine WC.ret (fun a_ ha => ?_)
    refine ret_block ?_
    refine ret_then ?_
    exact bodyPost_tmp rfl ha rfl ⟨(by congr 2; simp only [Nd.cmpS, hF] <;> try rfl), ((hE5.trans hE11).trans hE912)⟩
  | some c =>
    have hc := Nd.firstS_lt hF
    refine WC.weaken (r' := [(2, .pointer (some ⟨b1, 0, none⟩)), (3, .pointer (some ⟨b7, 0, none⟩)), (4, .int .i64 0)]) (subReg_cons rfl (subReg_cons rfl (subReg_cons rfl (subReg_nil _)))) ?_
    refine WC.draw 12 [8, 9, 10, 11, 12, 13, 14, 15, 7, 16, 17, 5] [pc (.agg #[.int .u64 s.a, .int .u64 s.b, .int .u64 s.c, .int .u64 s.d]), pc (.agg #[.int .u64 t.a, .int .u64 t.b, .int .u64 t.c, .int .u64 t.d]), pc (.agg #[.int .u64 (Nd.lessS s t).a, .int .u64 (Nd.lessS s t).b, .int .u64 (Nd.lessS s t).c, .int .u64 (Nd.lessS s t).d]), pc (.agg #[.int .u64 t.a, .int .u64 t.b, .int .u64 t.c, .int .u64 t.d]), pc (.agg #[.int .u64 s.a, .int .u64 s.b, .int .u64 s.c, .int .u64 s.d]), pc (.agg #[.int .u64 (Nd.lessS t s).a, .int .u64 (Nd.lessS t s).b, .int .u64 (Nd.lessS t s).c, .int .u64 (Nd.lessS t s).d]), pc (.agg #[.int .u64 (Nd.orS (Nd.lessS s t) (Nd.lessS t s)).a, .int .u64 (Nd.orS (Nd.lessS s t) (Nd.lessS t s)).b, .int .u64 (Nd.orS (Nd.lessS s t) (Nd.lessS t s)).c, .int .u64 (Nd.orS (Nd.lessS s t) (Nd.lessS t s)).d]), pc (.tuple #[.int .u8 (c : Int), .bool true]), pc (.tuple #[.int .u8 (c : Int), .bool true]), pc (.int .u8 (c : Int)), pc (.bool true), pc (.int .u8 (c : Int))] (by kernel_rfl) (by kernel_rfl) ⟨KW_pc _, KW_pc _, KW_pc _, KW_pc _, KW_pc _, KW_pc _, KW_pc _, KW_pc _, KW_pc _, KW_pc _, KW_pc _, KW_pc _, trivial⟩ rfl rfl rfl (StepsOn.cons ?_ (StepsOn.cons ?_ (StepsOn.cons ?_ (StepsOn.cons ?_ (StepsOn.cons ?_ (StepsOn.cons ?_ (StepsOn.cons ?_ (StepsOn.cons ?_ (StepsOn.cons ?_ (StepsOn.cons ?_ (StepsOn.cons ?_ (StepsOn.cons ?_ (StepsOn.nil _))))))))))))) ?_
    · intro σ β w1 hE1 hbi hk
      have hz1 := hE1.size
      refine ⟨[], (agree_nil _), ?_⟩
      have h41113 := ((hR4.ext hE11).ext hE1)
      refine WL.load_box rfl rfl rfl h41113 Ty.agg26 ?_
      refine WL.nil (fun a_ ha => ?_)
      exact ⟨_, β, ha, (Ext.refl _), BExt.refl _ _, hbi.ext (Ext.refl _), rfl⟩
    · intro σ β w1 hE1 hbi hk
      have hz1 := hE1.size
      refine ⟨[], (agree_nil _), ?_⟩
      refine WL.load_box rfl rfl rfl (hR10.ext hE1) Ty.agg26 ?_
      refine WL.nil (fun a_ ha => ?_)
      exact ⟨_, β, ha, (Ext.refl _), BExt.refl _ _, hbi.ext (Ext.refl _), rfl⟩
    · intro σ β w1 hE1 hbi hk
      have hz1 := hE1.size
      obtain ⟨_, hv41313, rfl⟩ := hk 0 (by kernel_rfl) _ _ rfl rfl
      obtain ⟨_, hv41314, rfl⟩ := hk 1 (by kernel_rfl) _ _ rfl rfl
      refine ⟨[(8, .agg #[.int .u64 s.a, .int .u64 s.b, .int .u64 s.c, .int .u64 s.d]), (9, .agg #[.int .u64 t.a, .int .u64 t.b, .int .u64 t.c, .int .u64 t.d])], (agree_cons (look_right rfl hv41313) (agree_cons (look_right rfl hv41314) (agree_nil _))), ?_⟩
      refine WL.call rfl rfl rfl Ty.ent61 (setLess_ok _ s t) ?_
      rintro _ w41316 ⟨rfl, hE41315⟩
      have hzhE41315 := hE41315.size
      refine ⟨_, rfl, ?_⟩
      refine WL.nil (fun a_ ha => ?_)
      exact ⟨_, β, ha, hE41315, BExt.refl _ _, hbi.ext hE41315, rfl⟩
    · intro σ β w1 hE1 hbi hk
      have hz1 := hE1.size
      refine ⟨[], (agree_nil _), ?_⟩
      refine WL.load_box rfl rfl rfl (hR10.ext hE1) Ty.agg26 ?_
      refine WL.nil (fun a_ ha => ?_)
      exact ⟨_, β, ha, (Ext.refl _), BExt.refl _ _, hbi.ext (Ext.refl _), rfl⟩
    · intro σ β w1 hE1 hbi hk
      have hz1 := hE1.size
      refine ⟨[], (agree_nil _), ?_⟩
      have h41513 := ((hR4.ext hE11).ext hE1)
      refine WL.load_box rfl rfl rfl h41513 Ty.agg26 ?_
      refine WL.nil (fun a_ ha => ?_)
      exact ⟨_, β, ha, (Ext.refl _), BExt.refl _ _, hbi.ext (Ext.refl _), rfl⟩
    · intro σ β w1 hE1 hbi hk
      have hz1 := hE1.size
      obtain ⟨_, hv41613, rfl⟩ := hk 3 (by kernel_rfl) _ _ rfl rfl
      obtain ⟨_, hv41614, rfl⟩ := hk 4 (by kernel_rfl) _ _ rfl rfl
      refine ⟨[(11, .agg #[.int .u64 t.a, .int .u64 t.b, .int .u64 t.c, .int .u64 t.d]), (12, .agg #[.int .u64 s.a, .int .u64 s.b, .int .u64 s.c, .int .u64 s.d])], (agree_cons (look_right rfl hv41613) (agree_cons (look_right rfl hv41614) (agree_nil _))), ?_⟩
      refine WL.call rfl rfl rfl Ty.ent61 (setLess_ok _ t s) ?_
      rintro _ w41616 ⟨rfl, hE41615⟩
      have hzhE41615 := hE41615.size
      refine ⟨_, rfl, ?_⟩
      refine WL.nil (fun a_ ha => ?_)
      exact ⟨_, β, ha, hE41615, BExt.refl _ _, hbi.ext hE41615, rfl⟩
    · intro σ β w1 hE1 hbi hk
      have hz1 := hE1.size
      obtain ⟨_, hv41713, rfl⟩ := hk 2 (by kernel_rfl) _ _ rfl rfl
      obtain ⟨_, hv41714, rfl⟩ := hk 5 (by kernel_rfl) _ _ rfl rfl
      refine ⟨[(10, .agg #[.int .u64 (Nd.lessS s t).a, .int .u64 (Nd.lessS s t).b, .int .u64 (Nd.lessS s t).c, .int .u64 (Nd.lessS s t).d]), (13, .agg #[.int .u64 (Nd.lessS t s).a, .int .u64 (Nd.lessS t s).b, .int .u64 (Nd.lessS t s).c, .int .u64 (Nd.lessS t s).d])], (agree_cons (look_right rfl hv41713) (agree_cons (look_right rfl hv41714) (agree_nil _))), ?_⟩
      refine WL.call rfl rfl rfl Ty.ent60 (setOr_ok _ (Nd.lessS s t) (Nd.lessS t s)) ?_
      rintro _ w41716 ⟨rfl, hE41715⟩
      have hzhE41715 := hE41715.size
      refine ⟨_, rfl, ?_⟩
      refine WL.nil (fun a_ ha => ?_)
      exact ⟨_, β, ha, hE41715, BExt.refl _ _, hbi.ext hE41715, rfl⟩
    · intro σ β w1 hE1 hbi hk
      have hz1 := hE1.size
      obtain ⟨_, hv41813, rfl⟩ := hk 6 (by kernel_rfl) _ _ rfl rfl
      refine ⟨[(14, .agg #[.int .u64 (Nd.orS (Nd.lessS s t) (Nd.lessS t s)).a, .int .u64 (Nd.orS (Nd.lessS s t) (Nd.lessS t s)).b, .int .u64 (Nd.orS (Nd.lessS s t) (Nd.lessS t s)).c, .int .u64 (Nd.orS (Nd.lessS s t) (Nd.lessS t s)).d])], (agree_cons (look_right rfl hv41813) (agree_nil _)), ?_⟩
      refine WL.call rfl rfl rfl Ty.ent59 (first_at _ (Nd.orS (Nd.lessS s t) (Nd.lessS t s)) (Nd.each_ok Nd.orI_ok _ _) hF) ?_
      rintro _ w41815 ⟨rfl, hE41814⟩
      have hzhE41814 := hE41814.size
      refine ⟨_, rfl, ?_⟩
      refine WL.nil (fun a_ ha => ?_)
      exact ⟨_, β, ha, hE41814, BExt.refl _ _, hbi.ext hE41814, rfl⟩
    · intro σ β w1 hE1 hbi hk
      have hz1 := hE1.size
      obtain ⟨_, hv41913, rfl⟩ := hk 7 (by kernel_rfl) _ _ rfl rfl
      refine ⟨[(15, .tuple #[.int .u8 (c : Int), .bool true])], (agree_cons (look_right rfl hv41913) (agree_nil _)), ?_⟩
      refine WL.move rfl rfl rfl ?_
      refine WL.nil (fun a_ ha => ?_)
      exact ⟨_, β, ha, (Ext.refl _), BExt.refl _ _, hbi.ext (Ext.refl _), rfl⟩
    · intro σ β w1 hE1 hbi hk
      have hz1 := hE1.size
      obtain ⟨_, hv42013, rfl⟩ := hk 8 (by kernel_rfl) _ _ rfl rfl
      refine ⟨[(7, .tuple #[.int .u8 (c : Int), .bool true])], (agree_cons (look_right rfl hv42013) (agree_nil _)), ?_⟩
      refine WL.extract rfl rfl rfl rfl ?_
      refine WL.nil (fun a_ ha => ?_)
      exact ⟨_, β, ha, (Ext.refl _), BExt.refl _ _, hbi.ext (Ext.refl _), rfl⟩
    · intro σ β w1 hE1 hbi hk
      have hz1 := hE1.size
      obtain ⟨_, hv42113, rfl⟩ := hk 8 (by kernel_rfl) _ _ rfl rfl
      refine ⟨[(7, .tuple #[.int .u8 (c : Int), .bool true])], (agree_cons (look_right rfl hv42113) (agree_nil _)), ?_⟩
      refine WL.extract rfl rfl rfl rfl ?_
      refine WL.nil (fun a_ ha => ?_)
      exact ⟨_, β, ha, (Ext.refl _), BExt.refl _ _, hbi.ext (Ext.refl _), rfl⟩
    · intro σ β w1 hE1 hbi hk
      have hz1 := hE1.size
      obtain ⟨_, hv42213, rfl⟩ := hk 9 (by kernel_rfl) _ _ rfl rfl
      refine ⟨[(16, .int .u8 (c : Int))], (agree_cons (look_right rfl hv42213) (agree_nil _)), ?_⟩
      refine WL.assign rfl rfl rfl ?_
      refine WL.nil (fun a_ ha => ?_)
      exact ⟨_, β, ha, (Ext.refl _), BExt.refl _ _, hbi.ext (Ext.refl _), rfl⟩
    intro σ β w40912 hE40912 hbi40912 hk
    have hz40912 := hE40912.size
    have hbi := hbi40912
    obtain ⟨_, hv40913, rfl⟩ := hk 10 (by decide) _ _ rfl rfl
    obtain ⟨_, hv40914, rfl⟩ := hk 11 (by decide) _ _ rfl rfl
    refine WL.know [(17, .bool true), (5, .int .u8 (c : Int))] (agree_cons (look_right rfl hv40913) (agree_cons (look_right rfl hv40914) (agree_nil _))) ?_
    refine WL.assign rfl rfl rfl ?_
    refine WL.done' ?_ (fun _ _ h => h)
    refine WC.seqk ?_
    refine WC.block ?_
    refine WC.seqk ?_
    refine WC.region ?_
    refine WL.move rfl rfl rfl ?_
    refine WL.not rfl rfl rfl ?_
    refine WL.assign rfl rfl rfl ?_
    refine WL.done' ?_ (fun _ _ h => h)
    refine WC.cond_f rfl ?_
    refine WC.seqk ?_
    refine WC.region ?_
    have h40915 := ((hR4.ext hE11).ext hE40912)
    refine WL.load_box rfl rfl rfl h40915 Ty.agg26 ?_
    refine WL.move rfl rfl rfl ?_
    refine WL.call rfl rfl rfl Ty.ent62 (has1b_ok _ s c hsok (by omega)) ?_
    rintro _ w40917 ⟨rfl, hE40916⟩
    have hzhE40916 := hE40916.size
    refine ⟨_, rfl, ?_⟩
    cases hc40918 : Nd.sbit s c with
    | false =>
      refine WL.assign rfl rfl rfl ?_
      refine WL.done' ?_ (fun _ _ h => h)
      refine WC.cond_f rfl ?_
      refine WC.skip'' ?_ (fun _ _ h => h)
      refine WC.seqk ?_
      refine WC.weaken (r' := [(4, .int .i64 0), (18, .bool false), (21, .bool false)]) (subReg_cons rfl (subReg_cons rfl (subReg_cons rfl (subReg_nil _)))) ?_
      refine WC.region ?_
      refine WL.assign rfl rfl rfl ?_
      refine WL.done' ?_ (fun _ _ h => h)
      refine WC.ret (fun a_ ha => ?_)
      exact bodyPost_tmp rfl ha rfl ⟨(by congr 2; simp only [Nd.cmpS, hF, hc40918] <;> try rfl), (((hE5.trans hE11).trans hE40912).trans hE40916)⟩
    | true =>
      refine WL.assign rfl rfl rfl ?_
      refine WL.done' ?_ (fun _ _ h => h)
      refine WC.cond_t rfl ?_
      refine WC.seqk ?_
      refine WC.weaken (r' := [(4, .int .i64 0), (18, .bool false), (21, .bool true)]) (subReg_cons rfl (subReg_cons rfl (subReg_cons rfl (subReg_nil _)))) ?_
      refine WC.region ?_
      refine WL.assign rfl rfl rfl ?_
      refine WL.done' ?_ (fun _ _ h => h)
      refine WC.ret (fun a_ ha => ?_)
      refine ret_block ?_
      refine ret_then ?_
      exact bodyPost_tmp rfl ha rfl ⟨(by congr 2; simp only [Nd.cmpS, hF, hc40918] <;> try rfl), (((hE5.trans hE11).trans hE40912).trans hE40916)⟩

set_option maxRecDepth 20000 in
set_option maxHeartbeats 4000000 in
theorem cmpor_ok (w : World) (b : Nat) (x y : Int) (hR : Row w b [.int .i64 x, .int .i64 y] 3) :
    Calls Try.prog 52 #[.slice (some ⟨b, 0, none⟩) 2 2] w fun e w' => e = .returned (.int .i64 (Nd.orC x y)) ∧ Ext w w' := by
  refine Calls.enter (args := [.slice (some ⟨b, 0, none⟩) 2 2]) Try.func52 rfl rfl rfl rfl ?_
  refine WC.seqk ?_
  refine WC.region ?_
  refine WL.assign rfl rfl rfl ?_
  refine WL.done' ?_ (fun _ _ h => h)
  refine WC.seqk ?_
  refine WC.region ?_
  refine WL.assign rfl rfl rfl ?_
  refine WL.done' ?_ (fun _ _ h => h)
  refine WC.seqk ?_
  refine WC.seqk ?_
  refine WC.region ?_
  refine WL.move rfl rfl rfl ?_
  refine WL.len rfl rfl Try.underlying78 rfl ?_
  refine WL.move rfl rfl rfl ?_
  refine WL.done' ?_ (fun _ _ h => h)
  refine WC.block ?_
  refine WC.weaken (r' := [(6, .slice (some ⟨b, 0, none⟩) 2 2), (3, .int .i64 0), (7, .int .i64 2), (8, .int .i64 0)]) (subReg_cons rfl (subReg_cons rfl (subReg_cons rfl (subReg_cons rfl (subReg_nil _))))) ?_
  refine WC.loop (σ := Nat) (fun k r_ w_ => r_ = [(6, .slice (some ⟨b, 0, none⟩) 2 2), (3, .int .i64 0), (7, .int .i64 2), (8, .int .i64 (k : Int))] ∧ Ext w w_ ∧ (k ≤ 2 ∧ ∀ j, j < k → Nd.pick2 j x y = 0)) (fun k => 2 - k) 0 ⟨rfl, (Ext.refl _), ⟨Nat.zero_le _, fun j h => by omega⟩⟩ ?_
  rintro k r_ w3 ⟨rfl, hE1, hI2⟩
  have hzhE1 := hE1.size
  obtain ⟨hk, hI0⟩ := hI2
  refine WC.seqk ?_
  refine WC.region ?_
  cases hc4 : decide (((k : Int) : Int) < 2) with
  | false =>
    refine WL.lss rfl rfl rfl rfl hc4 ?_
    have hp4 := of_decide_eq_false hc4
    refine WL.done' ?_ (fun _ _ h => h)
    refine WC.seqk ?_
    refine WC.cond_f rfl ?_
    refine WC.exit (fun a_ ha => ?_)
    refine exit_then ?_
    refine exit_then ?_
    refine exit_here ?_
    refine WC.at ?_ ha
    refine WC.seqk ?_
    refine WC.region ?_
    refine WL.move rfl rfl rfl ?_
    refine WL.assign rfl rfl rfl ?_
    refine WL.done' ?_ (fun _ _ h => h)
    refine WC.ret (fun a_ ha => ?_)
    exact bodyPost_tmp rfl ha rfl ⟨(by rw [← Nd.orC_zero (fun j hj => hI0 j (by omega))]), hE1⟩
  | true =>
    refine WL.lss rfl rfl rfl rfl hc4 ?_
    have hp4 := of_decide_eq_true hc4
    refine WL.done' ?_ (fun _ _ h => h)
    refine WC.seqk ?_
    refine WC.cond_t rfl ?_
    refine WC.skip'' ?_ (fun _ _ h => h)
    refine WC.seqk ?_
    refine WC.block ?_
    refine WC.seqk ?_
    refine WC.region ?_
    refine WL.indexAddr (i := k) rfl rfl Ty.slice78 rfl rfl rfl (by omega) ?_
    refine WL.load_fld (v := .int .i64 (Nd.pick2 k x y)) rfl rfl Ty.flat3 rfl (hR.ext hE1) (by have hk2 : k = 0 ∨ k = 1 := (by omega); rcases hk2 with rfl | rfl <;> rfl) ?_
    refine WL.assign rfl rfl rfl ?_
    refine WL.done' ?_ (fun _ _ h => h)
    refine WC.seqk ?_
    refine WC.region ?_
    refine WL.move rfl rfl rfl ?_
    refine WL.move rfl rfl rfl ?_
    cases hc55 : ((Nd.pick2 k x y : Int) != 0) with
    | false =>
      refine WL.neq rfl rfl rfl rfl hc55 ?_
      have hp55 := bne_eq_false_iff_eq.1 hc55
      refine WL.done' ?_ (fun _ _ h => h)
      refine WC.cond_f rfl ?_
      refine WC.skip'' ?_ (fun _ _ h => h)
      refine WC.region ?_
      refine WL.add (v := (k : Int) + 1) rfl rfl rfl rfl (IntWalk.i64_in _ (by omega)) ?_
      refine WL.move rfl rfl rfl ?_
      refine WL.nil (fun a_ ha => ?_)
      exact ⟨k + 1, _, ha.weaken (subReg_cons rfl (subReg_cons rfl (subReg_cons rfl (subReg_cons rfl (subReg_nil _))))), ⟨rfl, hE1, ⟨by omega, fun j hj => by rcases Nat.lt_or_ge j k with h | h; exact hI0 j h; have e : j = k := (by omega); subst e; omega⟩⟩, by first | omega | (dsimp only; omega)⟩
    | true =>
      refine WL.neq rfl rfl rfl rfl hc55 ?_
      have hp55 := bne_iff_ne.1 hc55
      refine WL.done' ?_ (fun _ _ h => h)
      refine WC.cond_t rfl ?_
      refine WC.seqk ?_
      refine WC.region ?_
      refine WL.move rfl rfl rfl ?_
      refine WL.assign rfl rfl rfl ?_
      refine WL.done' ?_ (fun _ _ h => h)
      refine WC.ret (fun a_ ha => ?_)
      refine ret_block ?_
      refine ret_then ?_
      refine ret_then ?_
      refine ret_block ?_
      refine ret_then ?_
      exact bodyPost_tmp rfl ha rfl ⟨(by rw [Nd.orC_pick (by omega) hI0 (by simpa using hc55)]), hE1⟩

set_option maxRecDepth 20000 in
set_option maxHeartbeats 4000000 in
theorem compareFunc_ok (D D2 : Nat → Prop) (w : World) (a a2 : Option Addr) (cap cap2 fn : Nat) (caps : Array Value) (ts us : List Nd) (p : Nd → Nd → Int) (hts : NodesV D w (.slice a ts.length cap) ts) (hus : NodesV D2 w (.slice a2 us.length cap2) us) (hf : ∀ (l l2 : List Value) (t u : Nd) (w' : World), Ext w w' → NodeL D w' l t → NodeL D2 w' l2 u → t ∈ ts → u ∈ us → Calls Try.prog fn (#[.agg l.toArray, .agg l2.toArray] ++ caps) w' fun e w'' => e = .returned (.int .i64 (p t u)) ∧ Ext w' w'') (hent : ∀ vs w, (callFunc fn vs).run Try.prog w = .ok (.enter fn vs) w) :
    Calls Try.prog 55 #[.slice a ts.length cap, .slice a2 us.length cap2, .func (.func fn) #[] caps] w fun e w' => e = .returned (.int .i64 (Nd.cmpL p ts us)) ∧ Ext w w' := by
  have hlen := hts.len
  have hlen2 := hus.len
  have hts := hts.lt
  have hus := hus.lt
  refine Calls.enter (args := [.slice a ts.length cap, .slice a2 us.length cap2, .func (.func fn) #[] caps]) Try.func55 rfl rfl rfl rfl ?_
  refine WC.seqk ?_
  refine WC.region ?_
  refine WL.assign rfl rfl rfl ?_
  refine WL.done' ?_ (fun _ _ h => h)
  refine WC.seqk ?_
  refine WC.seqk ?_
  refine WC.region ?_
  refine WL.move rfl rfl rfl ?_
  refine WL.len rfl rfl Try.underlying27 rfl ?_
  refine WL.move rfl rfl rfl ?_
  refine WL.done' ?_ (fun _ _ h => h)
  refine WC.block ?_
  refine WC.weaken (r' := [(0, .slice a ts.length cap), (1, .slice a2 us.length cap2), (2, .func (.func fn) #[] caps), (11, .slice a ts.length cap), (12, .int .i64 ts.length), (13, .int .i64 0)]) (subReg_cons rfl (subReg_cons rfl (subReg_cons rfl (subReg_cons rfl (subReg_cons rfl (subReg_cons rfl (subReg_nil _))))))) ?_
  refine WC.loop (σ := Nat) (fun k r_ w_ => r_ = [(0, .slice a ts.length cap), (1, .slice a2 us.length cap2), (2, .func (.func fn) #[] caps), (11, .slice a ts.length cap), (12, .int .i64 ts.length), (13, .int .i64 (k : Int))] ∧ Ext w w_ ∧ (k ≤ ts.length ∧ k ≤ us.length ∧ Nd.cmpL p ts us = Nd.cmpL p (ts.drop k) (us.drop k))) (fun k => ts.length - k) 0 ⟨rfl, (Ext.refl _), ⟨Nat.zero_le _, Nat.zero_le _, rfl⟩⟩ ?_
  rintro k r_ w3 ⟨rfl, hE1, hI2⟩
  have hzhE1 := hE1.size
  obtain ⟨hk, hk2, hI1⟩ := hI2
  refine WC.seqk ?_
  refine WC.region ?_
  cases hc4 : decide (((k : Int) : Int) < ts.length) with
  | false =>
    refine WL.lss rfl rfl rfl rfl hc4 ?_
    have hp4 := of_decide_eq_false hc4
    refine WL.done' ?_ (fun _ _ h => h)
    refine WC.seqk ?_
    refine WC.cond_f rfl ?_
    refine WC.exit (fun a_ ha => ?_)
    refine exit_then ?_
    refine exit_then ?_
    refine exit_here ?_
    refine WC.at ?_ ha
    refine WC.seqk ?_
    refine WC.seqk ?_
    refine WC.region ?_
    refine WL.move rfl rfl rfl ?_
    refine WL.len rfl rfl Try.underlying27 rfl ?_
    refine WL.move rfl rfl rfl ?_
    refine WL.len rfl rfl Try.underlying27 rfl ?_
    cases hc5 : decide ((ts.length : Int) < us.length) with
    | false =>
      refine WL.lss rfl rfl rfl rfl hc5 ?_
      have hp5 := of_decide_eq_false hc5
      refine WL.done' ?_ (fun _ _ h => h)
      refine WC.cond_f rfl ?_
      refine WC.skip'' ?_ (fun _ _ h => h)
      refine WC.seqk ?_
      refine WC.region ?_
      refine WL.assign rfl rfl rfl ?_
      refine WL.done' ?_ (fun _ _ h => h)
      refine WC.ret (fun a_ ha => ?_)
      exact bodyPost_tmp rfl ha rfl ⟨(by rw [hI1, Nd.cmpL_end (by omega) (by omega)]), hE1⟩
    | true =>
      refine WL.lss rfl rfl rfl rfl hc5 ?_
      have hp5 := of_decide_eq_true hc5
      refine WL.done' ?_ (fun _ _ h => h)
      refine WC.cond_t rfl ?_
      refine WC.seqk ?_
      refine WC.region ?_
      refine WL.assign rfl rfl rfl ?_
      refine WL.done' ?_ (fun _ _ h => h)
      refine WC.ret (fun a_ ha => ?_)
      refine ret_then ?_
      exact bodyPost_tmp rfl ha rfl ⟨(by rw [hI1, Nd.cmpL_less (by omega) (by omega)]), hE1⟩
  | true =>
    refine WL.lss rfl rfl rfl rfl hc4 ?_
    have hp4 := of_decide_eq_true hc4
    refine WL.done' ?_ (fun _ _ h => h)
    refine WC.seqk ?_
    refine WC.cond_t rfl ?_
    refine WC.skip'' ?_ (fun _ _ h => h)
    refine WC.seqk ?_
    refine WC.block ?_
    refine WC.seqk ?_
    refine WC.region ?_
    refine WL.move rfl rfl rfl ?_
    obtain ⟨t55, ht55⟩ : ∃ t, ts[k]? = some t := ⟨_, List.getElem?_eq_getElem (by omega)⟩
    obtain ⟨eb55, eo55, el55, hea55, hD55, her55, hn55⟩ := (hts.ext hE1).at ht55
    obtain ⟨sl55, rfl, hts55⟩ := hn55.opn
    obtain ⟨a55, cap55, rfl, hlen55, -⟩ := hts55.get
    subst hea55
    refine WL.indexAddr (i := k) rfl rfl Ty.slice27 rfl rfl rfl (by omega) ?_
    refine WL.load_agg (l := tcells t55 (.slice a55 t55.subs.length cap55)) rfl rfl Ty.agg29 rfl her55 ?_
    refine WL.alloc rfl rfl Ty.zero29 rfl (fun b56 w61 hb57 hE60 hs58 hR59 => ?_)
    refine WL.assign rfl rfl rfl ?_
    refine WL.store_box rfl rfl rfl hR59 Ty.agg29 rfl rfl (fun w64 hB63 hR62 => ?_)
    have hzhB63 := hB63.size
    refine WL.done' ?_ (fun _ _ h => h)
    refine WC.seqk ?_
    refine WC.seqk ?_
    refine WC.region ?_
    refine WL.move rfl rfl rfl ?_
    refine WL.move rfl rfl rfl ?_
    refine WL.len rfl rfl Try.underlying27 rfl ?_
    cases hc65 : decide ((us.length : Int) ≤ (k : Int)) with
    | false =>
      refine WL.geq rfl rfl rfl rfl hc65 ?_
      have hp65 := of_decide_eq_false hc65
      refine WL.done' ?_ (fun _ _ h => h)
      refine WC.cond_f rfl ?_
      refine WC.skip'' ?_ (fun _ _ h => h)
      refine WC.seqk ?_
      refine WC.region ?_
      refine WL.move rfl rfl rfl ?_
      refine WL.move rfl rfl rfl ?_
      have h66 := (((hus.ext hE1).ext hE60).but hB63 (by intro h1; first | omega | ((try dsimp only at h1); (repeat' first | (guard_hyp h1 : _ ∨ _; refine Or.elim h1 (fun h1 => ?_) (fun h1 => ?_)) | (guard_hyp h1 : _ ∧ _; have hx := h1.2; replace h1 := h1.1)) <;> first | contradiction | omega)))
      obtain ⟨t67, ht67⟩ : ∃ t, us[k]? = some t := ⟨_, List.getElem?_eq_getElem (by omega)⟩
      obtain ⟨eb67, eo67, el67, hea67, hD67, her67, hn67⟩ := h66.at ht67
      obtain ⟨sl67, rfl, hts67⟩ := hn67.opn
      obtain ⟨a67, cap67, rfl, hlen67, -⟩ := hts67.get
      subst hea67
      refine WL.indexAddr (i := k) rfl rfl Ty.slice27 rfl rfl rfl (by omega) ?_
      refine WL.load_agg (l := tcells t67 (.slice a67 t67.subs.length cap67)) rfl rfl Ty.agg29 rfl her67 ?_
      refine WL.alloc rfl rfl Ty.zero29 rfl (fun b68 w73 hb69 hE72 hs70 hR71 => ?_)
      refine WL.store_box rfl rfl rfl hR71 Ty.agg29 rfl rfl (fun w76 hB75 hR74 => ?_)
      have hzhB75 := hB75.size
      refine WL.done' ?_ (fun _ _ h => h)
      refine WC.seqk ?_
      refine WC.region ?_
      refine WL.move rfl rfl rfl ?_
      have h77 := (hB75.row (hR62.ext hE72) (by omega))
      refine WL.load_box rfl rfl rfl h77 Ty.agg29 ?_
      refine WL.load_box rfl rfl rfl hR74 Ty.agg29 ?_
      have h78 := ((((hn55.ext hE60).but hB63 (by intro h1; first | omega | ((try dsimp only at h1); (repeat' first | (guard_hyp h1 : _ ∨ _; refine Or.elim h1 (fun h1 => ?_) (fun h1 => ?_)) | (guard_hyp h1 : _ ∧ _; have hx := h1.2; replace h1 := h1.1)) <;> first | contradiction | omega))).ext hE72).but hB75 (by intro h1; first | omega | ((try dsimp only at h1); (repeat' first | (guard_hyp h1 : _ ∨ _; refine Or.elim h1 (fun h1 => ?_) (fun h1 => ?_)) | (guard_hyp h1 : _ ∧ _; have hx := h1.2; replace h1 := h1.1)) <;> first | contradiction | omega)))
      have h79 := ((hn67.ext hE72).but hB75 (by intro h1; first | omega | ((try dsimp only at h1); (repeat' first | (guard_hyp h1 : _ ∨ _; refine Or.elim h1 (fun h1 => ?_) (fun h1 => ?_)) | (guard_hyp h1 : _ ∧ _; have hx := h1.2; replace h1 := h1.1)) <;> first | contradiction | omega)))
      refine WL.callv rfl rfl rfl rfl hent (hf _ _ _ _ _ (hB75.onto ((hB63.onto (hE1.trans hE60) (by omega)).trans hE72) (by omega)) (h78.dom (fun _ h => h.1)) (h79.dom (fun _ h => h.1)) (List.mem_of_getElem? ht55) (List.mem_of_getElem? ht67)) ?_
      rintro _ w81 ⟨rfl, hE80⟩
      have hzhE80 := hE80.size
      refine ⟨_, rfl, ?_⟩
      refine WL.assign rfl rfl rfl ?_
      refine WL.done' ?_ (fun _ _ h => h)
      refine WC.seqk ?_
      refine WC.region ?_
      refine WL.move rfl rfl rfl ?_
      cases hc82 : ((p t55 t67 : Int) != 0) with
      | false =>
        refine WL.neq rfl rfl rfl rfl hc82 ?_
        have hp82 := bne_eq_false_iff_eq.1 hc82
        refine WL.done' ?_ (fun _ _ h => h)
        refine WC.cond_f rfl ?_
        refine WC.skip'' ?_ (fun _ _ h => h)
        refine WC.region ?_
        refine WL.add (v := (k : Int) + 1) rfl rfl rfl rfl (IntWalk.i64_in _ (by omega)) ?_
        refine WL.move rfl rfl rfl ?_
        refine WL.nil (fun a_ ha => ?_)
        exact ⟨k + 1, _, ha.weaken (subReg_cons rfl (subReg_cons rfl (subReg_cons rfl (subReg_cons rfl (subReg_cons rfl (subReg_cons rfl (subReg_nil _))))))), ⟨rfl, ((hB75.onto ((hB63.onto (hE1.trans hE60) (by omega)).trans hE72) (by omega)).trans hE80), ⟨by omega, by omega, by rw [hI1, Nd.cmpL_step ht55 ht67, if_neg (by simpa using hc82)]⟩⟩, by first | omega | (dsimp only; omega)⟩
      | true =>
        refine WL.neq rfl rfl rfl rfl hc82 ?_
        have hp82 := bne_iff_ne.1 hc82
        refine WL.done' ?_ (fun _ _ h => h)
        refine WC.cond_t rfl ?_
        refine WC.seqk ?_
        refine WC.region ?_
        refine WL.move rfl rfl rfl ?_
        refine WL.assign rfl rfl rfl ?_
        refine WL.done' ?_ (fun _ _ h => h)
        refine WC.ret (fun a_ ha => ?_)
        refine ret_block ?_
        refine ret_then ?_
        refine ret_then ?_
        refine ret_block ?_
        refine ret_then ?_
        exact bodyPost_tmp rfl ha rfl ⟨(by rw [hI1, Nd.cmpL_step ht55 ht67, if_pos (by simpa using hc82)]), ((hB75.onto ((hB63.onto (hE1.trans hE60) (by omega)).trans hE72) (by omega)).trans hE80)⟩
    | true =>
      refine WL.geq rfl rfl rfl rfl hc65 ?_
      have hp65 := of_decide_eq_true hc65
      refine WL.done' ?_ (fun _ _ h => h)
      refine WC.cond_t rfl ?_
      refine WC.seqk ?_
      refine WC.region ?_
      refine WL.assign rfl rfl rfl ?_
      refine WL.done' ?_ (fun _ _ h => h)
      refine WC.ret (fun a_ ha => ?_)
      refine ret_then ?_
      refine ret_block ?_
      refine ret_then ?_
      refine ret_then ?_
      refine ret_block ?_
      refine ret_then ?_
      exact bodyPost_tmp rfl ha rfl ⟨(by rw [hI1, Nd.cmpL_more (by omega) (by omega)]), (hB63.onto (hE1.trans hE60) (by omega))⟩

set_option maxRecDepth 20000 in
set_option maxHeartbeats 4000000 in
theorem compare_ok (T : Nd) : ∀ (D D2 : Nat → Prop) (w : World) (l l2 : List Value) (U : Nd) (_hT : NodeL D w l T) (_hU : NodeL D2 w l2 U) (_hsT : T.sok = true) (_hsU : U.sok = true),
    Calls Try.prog 44 #[.agg l.toArray, .agg l2.toArray] w fun e w' => e = .returned (.int .i64 (Nd.cmpN T U)) ∧ Ext w w' := by
  induction T using Nd.ind with
  | h kd st mn mx tsx ih =>
  intro D D2 w l l2 U hT hU hsT hsU
  replace ih : ∀ t, t ∈ (Nd.mk kd st mn mx tsx).subs → _ := ih
  generalize Nd.mk kd st mn mx tsx = T at *
  clear kd st mn mx tsx
  have hT := hT.lt
  obtain ⟨sl, rfl, hts⟩ := hT.opn
  obtain ⟨a, cap, rfl, hlen, -⟩ := hts.get
  have hU := hU.lt
  obtain ⟨sl2, rfl, hts2⟩ := hU.opn
  obtain ⟨a2, cap2, rfl, hlen2, -⟩ := hts2.get
  refine Calls.enter (args := [.agg #[.int .u8 T.kind, .int .u64 T.set.a, .int .u64 T.set.b, .int .u64 T.set.c, .int .u64 T.set.d, .int .i64 T.least, .int .i64 T.most, .slice a T.subs.length cap], .agg #[.int .u8 U.kind, .int .u64 U.set.a, .int .u64 U.set.b, .int .u64 U.set.c, .int .u64 U.set.d, .int .i64 U.least, .int .i64 U.most, .slice a2 U.subs.length cap2]]) Try.func44 rfl rfl rfl rfl ?_
  refine WC.seqk ?_
  refine WC.region ?_
  refine WL.box_agg rfl rfl rfl (fun b1 w6 hb2 hE5 hs3 hR4 => ?_)
  refine WL.box_agg rfl rfl rfl (fun b7 w12 hb8 hE11 hs9 hR10 => ?_)
  refine WL.assign rfl rfl rfl ?_
  refine WL.done' ?_ (fun _ _ h => h)
  refine WC.seqk ?_
  refine WC.seqk ?_
  refine WC.region ?_
  refine WL.fieldAddr rfl rfl Ty.fld29_0 rfl ?_
  refine WL.load_fld rfl rfl Ty.flat5 rfl (hR4.ext hE11) rfl ?_
  refine WL.fieldAddr rfl rfl Ty.fld29_0 rfl ?_
  refine WL.load_fld rfl rfl Ty.flat5 rfl hR10 rfl ?_
  cases hc13 : ((T.kind : Int) != U.kind) with
  | false =>
    refine WL.neq rfl rfl rfl rfl hc13 ?_
    have hp13 := bne_eq_false_iff_eq.1 hc13
    refine WL.done' ?_ (fun _ _ h => h)
    refine WC.cond_f rfl ?_
    refine WC.skip'' ?_ (fun _ _ h => h)
    refine WC.seqk ?_
    refine WC.seqk ?_
    refine WC.region ?_
    refine WL.fieldAddr rfl rfl Ty.fld29_0 rfl ?_
    refine WL.load_fld rfl rfl Ty.flat5 rfl (hR4.ext hE11) rfl ?_
    refine WL.done' ?_ (fun _ _ h => h)
    refine WC.block ?_
    refine WC.seqk ?_
    refine WC.weaken (r' := [(2, .pointer (some ⟨b1, 0, none⟩)), (3, .pointer (some ⟨b7, 0, none⟩)), (4, .int .i64 0), (10, .bool false), (17, .int .u8 T.kind)]) (subReg_cons rfl (subReg_cons rfl (subReg_cons rfl (subReg_cons rfl (subReg_cons rfl (subReg_nil _)))))) ?_
    refine WC.region ?_
    cases hc14 : ((T.kind : Int) == 2) with
    | false =>
      refine WL.eql rfl rfl rfl rfl hc14 ?_
      have hp14 := beq_eq_false_iff_ne.1 hc14
      refine WL.assign rfl rfl rfl ?_
      refine WL.done' ?_ (fun _ _ h => h)
      refine WC.cond_f rfl ?_
      refine WC.seqk ?_
      refine WC.region ?_
      cases hc15 : ((T.kind : Int) == 5) with
      | false =>
        refine WL.eql rfl rfl rfl rfl hc15 ?_
        have hp15 := beq_eq_false_iff_ne.1 hc15
        refine WL.assign rfl rfl rfl ?_
        refine WL.done' ?_ (fun _ _ h => h)
        refine WC.cond_f rfl ?_
        refine WC.seqk ?_
        refine WC.seqk ?_
        refine WC.region ?_
        cases hc16 : ((T.kind : Int) == 0) with
        | false =>
          refine WL.eql rfl rfl rfl rfl hc16 ?_
          have hp16 := beq_eq_false_iff_ne.1 hc16
          refine WL.assign rfl rfl rfl ?_
          refine WL.done' ?_ (fun _ _ h => h)
          refine WC.cond_f rfl ?_
          refine WC.region ?_
          cases hc17 : ((T.kind : Int) == 1) with
          | false =>
            refine WL.eql rfl rfl rfl rfl hc17 ?_
            have hp17 := beq_eq_false_iff_ne.1 hc17
            refine WL.assign rfl rfl rfl ?_
            refine WL.done' ?_ (fun _ _ h => h)
            refine WC.cond_f rfl ?_
            refine WC.skip'' ?_ (fun _ _ h => h)
            refine WC.seqk ?_
            refine WC.region ?_
            refine WL.fieldAddr rfl rfl Ty.fld29_4 rfl ?_
            refine WL.load_fld rfl rfl Ty.flat27 rfl (hR4.ext hE11) rfl ?_
            refine WL.fieldAddr rfl rfl Ty.fld29_4 rfl ?_
            refine WL.load_fld rfl rfl Ty.flat27 rfl hR10 rfl ?_
            have h18 := ((hts.ext hE5).ext hE11)
            have h19 := ((hts2.ext hE5).ext hE11)
            refine WL.call rfl rfl rfl Ty.ent55 (compareFunc_ok _ _ _ _ _ _ _ _ _ T.subs U.subs Nd.cmpN h18 h19 (fun l l2 t u w2 h h1 h2 ht hu => Calls.caps20 (ih t ht _ _ _ _ _ _ h1 h2 (Nd.sok_subs hsT ht) (Nd.sok_subs hsU hu))) Ty.ent44) ?_
            rintro _ w21 ⟨rfl, hE20⟩
            have hzhE20 := hE20.size
            refine ⟨_, rfl, ?_⟩
            refine WL.assign rfl rfl rfl ?_
            refine WL.done' ?_ (fun _ _ h => h)
            refine WC.ret (fun a_ ha => ?_)
            exact bodyPost_tmp rfl ha rfl ⟨(by congr 2; rw [Nd.cmpN_eq]; (repeat' split) <;> first | rfl | (exfalso; omega) | (rw [Nd.orC_pos (a := Nd.orC (cmpI T.least U.least) (cmpI T.mostI U.mostI)) (by assumption)]) | (rw [Nd.orC_z (a := Nd.orC (cmpI T.least U.least) (cmpI T.mostI U.mostI)) (by assumption)])), ((hE5.trans hE11).trans hE20)⟩
          | true =>
            refine WL.eql rfl rfl rfl rfl hc17 ?_
            have hp17 := beq_iff_eq.1 hc17
            refine WL.assign rfl rfl rfl ?_
            refine WL.done' ?_ (fun _ _ h => h)
            refine WC.cond_t rfl ?_
            refine WC.seqk ?_
            refine WC.region ?_
            refine WL.assign rfl rfl rfl ?_
            refine WL.done' ?_ (fun _ _ h => h)
            refine WC.ret (fun a_ ha => ?_)
            refine ret_block ?_
            refine ret_then ?_
            exact bodyPost_tmp rfl ha rfl ⟨(by congr 2; rw [Nd.cmpN_eq]; (repeat' split) <;> first | rfl | (exfalso; omega) | (rw [Nd.orC_pos (a := Nd.orC (cmpI T.least U.least) (cmpI T.mostI U.mostI)) (by assumption)]) | (rw [Nd.orC_z (a := Nd.orC (cmpI T.least U.least) (cmpI T.mostI U.mostI)) (by assumption)])), (hE5.trans hE11)⟩
        | true =>
          refine WL.eql rfl rfl rfl rfl hc16 ?_
          have hp16 := beq_iff_eq.1 hc16
          refine WL.assign rfl rfl rfl ?_
          refine WL.done' ?_ (fun _ _ h => h)
          refine WC.cond_t rfl ?_
          refine WC.skip'' ?_ (fun _ _ h => h)
          refine WC.cond_t rfl ?_
          refine WC.seqk ?_
          refine WC.region ?_
          refine WL.assign rfl rfl rfl ?_
          refine WL.done' ?_ (fun _ _ h => h)
          refine WC.ret (fun a_ ha => ?_)
          refine ret_block ?_
          refine ret_then ?_
          exact bodyPost_tmp rfl ha rfl ⟨(by congr 2; rw [Nd.cmpN_eq]; (repeat' split) <;> first | rfl | (exfalso; omega) | (rw [Nd.orC_pos (a := Nd.orC (cmpI T.least U.least) (cmpI T.mostI U.mostI)) (by assumption)]) | (rw [Nd.orC_z (a := Nd.orC (cmpI T.least U.least) (cmpI T.mostI U.mostI)) (by assumption)])), (hE5.trans hE11)⟩
      | true =>
        refine WL.eql rfl rfl rfl rfl hc15 ?_
        have hp15 := beq_iff_eq.1 hc15
        refine WL.assign rfl rfl rfl ?_
        refine WL.done' ?_ (fun _ _ h => h)
        refine WC.cond_t rfl ?_
        refine WC.seqk ?_
        have h66 := ((hT.ext hE5).ext hE11)
        have h67 := ((hU.ext hE5).ext hE11)
        refine WC.weaken (r' := [(2, .pointer (some ⟨b1, 0, none⟩)), (3, .pointer (some ⟨b7, 0, none⟩)), (4, .int .i64 0), (10, .bool false), (17, .int .u8 T.kind), (18, .bool false), (25, .bool true)]) (subReg_cons rfl (subReg_cons rfl (subReg_cons rfl (subReg_cons rfl (subReg_cons rfl (subReg_cons rfl (subReg_cons rfl (subReg_nil _)))))))) ?_
        refine WC.draw 8 [27, 28, 29, 30, 31, 32, 33, 34] [pc (.pointer (some ⟨b1, 5, none⟩)), pc (.int .i64 T.least), pc (.pointer (some ⟨b7, 5, none⟩)), pc (.int .i64 U.least), pc (.int .i64 (cmpI T.least U.least)), pc (.agg #[.int .u8 T.kind, .int .u64 T.set.a, .int .u64 T.set.b, .int .u64 T.set.c, .int .u64 T.set.d, .int .i64 T.least, .int .i64 T.most, .slice a T.subs.length cap]), pc (.int .i64 (Nd.mostI T)), pc (.agg #[.int .u8 U.kind, .int .u64 U.set.a, .int .u64 U.set.b, .int .u64 U.set.c, .int .u64 U.set.d, .int .i64 U.least, .int .i64 U.most, .slice a2 U.subs.length cap2])] (by kernel_rfl) (by kernel_rfl) ⟨KW_pc _, KW_pc _, KW_pc _, KW_pc _, KW_pc _, KW_pc _, KW_pc _, KW_pc _, trivial⟩ rfl rfl rfl (StepsOn.cons ?_ (StepsOn.cons ?_ (StepsOn.cons ?_ (StepsOn.cons ?_ (StepsOn.cons ?_ (StepsOn.cons ?_ (StepsOn.cons ?_ (StepsOn.cons ?_ (StepsOn.nil _))))))))) ?_
        · intro σ β w1 hE1 hbi hk
          have hz1 := hE1.size
          refine ⟨[], (agree_nil _), ?_⟩
          refine WL.fieldAddr rfl rfl Ty.fld29_2 rfl ?_
          refine WL.nil (fun a_ ha => ?_)
          exact ⟨_, β, ha, (Ext.refl _), BExt.refl _ _, hbi.ext (Ext.refl _), rfl⟩
        · intro σ β w1 hE1 hbi hk
          have hz1 := hE1.size
          obtain ⟨_, hv1268, rfl⟩ := hk 0 (by kernel_rfl) _ _ rfl rfl
          refine ⟨[(27, .pointer (some ⟨b1, 5, none⟩))], (agree_cons (look_right rfl hv1268) (agree_nil _)), ?_⟩
          have h1269 := ((hR4.ext hE11).ext hE1)
          refine WL.load_fld rfl rfl Ty.flat3 rfl h1269 rfl ?_
          refine WL.nil (fun a_ ha => ?_)
          exact ⟨_, β, ha, (Ext.refl _), BExt.refl _ _, hbi.ext (Ext.refl _), rfl⟩
        · intro σ β w1 hE1 hbi hk
          have hz1 := hE1.size
          refine ⟨[], (agree_nil _), ?_⟩
          refine WL.fieldAddr rfl rfl Ty.fld29_2 rfl ?_
          refine WL.nil (fun a_ ha => ?_)
          exact ⟨_, β, ha, (Ext.refl _), BExt.refl _ _, hbi.ext (Ext.refl _), rfl⟩
        · intro σ β w1 hE1 hbi hk
          have hz1 := hE1.size
          obtain ⟨_, hv1468, rfl⟩ := hk 2 (by kernel_rfl) _ _ rfl rfl
          refine ⟨[(29, .pointer (some ⟨b7, 5, none⟩))], (agree_cons (look_right rfl hv1468) (agree_nil _)), ?_⟩
          refine WL.load_fld rfl rfl Ty.flat3 rfl (hR10.ext hE1) rfl ?_
          refine WL.nil (fun a_ ha => ?_)
          exact ⟨_, β, ha, (Ext.refl _), BExt.refl _ _, hbi.ext (Ext.refl _), rfl⟩
        · intro σ β w1 hE1 hbi hk
          have hz1 := hE1.size
          obtain ⟨_, hv1568, rfl⟩ := hk 1 (by kernel_rfl) _ _ rfl rfl
          obtain ⟨_, hv1569, rfl⟩ := hk 3 (by kernel_rfl) _ _ rfl rfl
          refine ⟨[(28, .int .i64 T.least), (30, .int .i64 U.least)], (agree_cons (look_right rfl hv1568) (agree_cons (look_right rfl hv1569) (agree_nil _))), ?_⟩
          refine WL.call rfl rfl rfl Ty.ent53 (cmp_i64 T.least U.least _) ?_
          rintro _ w1571 ⟨rfl, hE1570⟩
          have hzhE1570 := hE1570.size
          refine ⟨_, rfl, ?_⟩
          refine WL.nil (fun a_ ha => ?_)
          exact ⟨_, β, ha, hE1570, BExt.refl _ _, hbi.ext hE1570, rfl⟩
        · intro σ β w1 hE1 hbi hk
          have hz1 := hE1.size
          refine ⟨[], (agree_nil _), ?_⟩
          have h1668 := ((hR4.ext hE11).ext hE1)
          refine WL.load_box rfl rfl rfl h1668 Ty.agg29 ?_
          refine WL.nil (fun a_ ha => ?_)
          exact ⟨_, β, ha, (Ext.refl _), BExt.refl _ _, hbi.ext (Ext.refl _), rfl⟩
        · intro σ β w1 hE1 hbi hk
          have hz1 := hE1.size
          obtain ⟨_, hv1768, rfl⟩ := hk 5 (by kernel_rfl) _ _ rfl rfl
          refine ⟨[(32, .agg #[.int .u8 T.kind, .int .u64 T.set.a, .int .u64 T.set.b, .int .u64 T.set.c, .int .u64 T.set.d, .int .i64 T.least, .int .i64 T.most, .slice a T.subs.length cap])], (agree_cons (look_right rfl hv1768) (agree_nil _)), ?_⟩
          refine WL.call rfl rfl rfl Ty.ent54 (most_ok _ _ _ _ (h66.ext hE1)) ?_
          rintro _ w1770 ⟨rfl, hE1769⟩
          have hzhE1769 := hE1769.size
          refine ⟨_, rfl, ?_⟩
          refine WL.nil (fun a_ ha => ?_)
          exact ⟨_, β, ha, hE1769, BExt.refl _ _, hbi.ext hE1769, rfl⟩
        · intro σ β w1 hE1 hbi hk
          have hz1 := hE1.size
          refine ⟨[], (agree_nil _), ?_⟩
          refine WL.load_box rfl rfl rfl (hR10.ext hE1) Ty.agg29 ?_
          refine WL.nil (fun a_ ha => ?_)
          exact ⟨_, β, ha, (Ext.refl _), BExt.refl _ _, hbi.ext (Ext.refl _), rfl⟩
        intro σ β w967 hE967 hbi967 hk
        have hz967 := hE967.size
        have hbi := hbi967
        obtain ⟨_, hv968, rfl⟩ := hk 4 (by decide) _ _ rfl rfl
        obtain ⟨_, hv969, rfl⟩ := hk 6 (by decide) _ _ rfl rfl
        obtain ⟨_, hv970, rfl⟩ := hk 7 (by decide) _ _ rfl rfl
        refine WL.know [(31, .int .i64 (cmpI T.least U.least)), (33, .int .i64 (Nd.mostI T)), (34, .agg #[.int .u8 U.kind, .int .u64 U.set.a, .int .u64 U.set.b, .int .u64 U.set.c, .int .u64 U.set.d, .int .i64 U.least, .int .i64 U.most, .slice a2 U.subs.length cap2])] (agree_cons (look_right rfl hv968) (agree_cons (look_right rfl hv969) (agree_cons (look_right rfl hv970) (agree_nil _)))) ?_
        refine WL.call rfl rfl rfl Ty.ent54 (most_ok _ _ _ _ (h67.ext hE967)) ?_
        rintro _ w972 ⟨rfl, hE971⟩
        have hzhE971 := hE971.size
        refine ⟨_, rfl, ?_⟩
        refine WL.call rfl rfl rfl Ty.ent53 (cmp_i64 (Nd.mostI T) (Nd.mostI U) _) ?_
        rintro _ w974 ⟨rfl, hE973⟩
        have hzhE973 := hE973.size
        refine ⟨_, rfl, ?_⟩
        refine WL.buildSlice (vs := [.int .i64 (cmpI T.least U.least), .int .i64 (cmpI (Nd.mostI T) (Nd.mostI U))]) (cells := [.int .i64 (cmpI T.least U.least), .int .i64 (cmpI (Nd.mostI T) (Nd.mostI U))]) rfl rfl Ty.slice78 Ty.zero3 rfl rfl rfl rfl rfl rfl (fun b975 w980 hb976 hE979 hs977 hR978 => ?_)
        refine WL.call rfl rfl rfl Ty.ent52 (cmpor_ok _ _ (cmpI T.least U.least) (cmpI (Nd.mostI T) (Nd.mostI U)) hR978) ?_
        rintro _ w982 ⟨rfl, hE981⟩
        have hzhE981 := hE981.size
        refine ⟨_, rfl, ?_⟩
        refine WL.assign rfl rfl rfl ?_
        refine WL.done' ?_ (fun _ _ h => h)
        refine WC.seqk ?_
        refine WC.weaken (r' := [(2, .pointer (some ⟨b1, 0, none⟩)), (3, .pointer (some ⟨b7, 0, none⟩)), (4, .int .i64 0), (10, .bool false), (17, .int .u8 T.kind), (18, .bool false), (25, .bool true), (5, .int .i64 (Nd.orC (cmpI T.least U.least) (cmpI (Nd.mostI T) (Nd.mostI U))))]) (subReg_cons rfl (subReg_cons rfl (subReg_cons rfl (subReg_cons rfl (subReg_cons rfl (subReg_cons rfl (subReg_cons rfl (subReg_cons rfl (subReg_nil _))))))))) ?_
        refine WC.region ?_
        refine WL.move rfl rfl rfl ?_
        cases hc983 : ((Nd.orC (cmpI T.least U.least) (cmpI (Nd.mostI T) (Nd.mostI U)) : Int) != 0) with
        | false =>
          refine WL.neq rfl rfl rfl rfl hc983 ?_
          have hp983 := bne_eq_false_iff_eq.1 hc983
          refine WL.done' ?_ (fun _ _ h => h)
          refine WC.cond_f rfl ?_
          refine WC.skip'' ?_ (fun _ _ h => h)
          refine WC.seqk ?_
          refine WC.region ?_
          refine WL.fieldAddr rfl rfl Ty.fld29_4 rfl ?_
          have h984 := ((((((hR4.ext hE11).ext hE967).ext hE971).ext hE973).ext hE979).ext hE981)
          refine WL.load_fld rfl rfl Ty.flat27 rfl h984 rfl ?_
          refine WL.fieldAddr rfl rfl Ty.fld29_4 rfl ?_
          have h985 := (((((hR10.ext hE967).ext hE971).ext hE973).ext hE979).ext hE981)
          refine WL.load_fld rfl rfl Ty.flat27 rfl h985 rfl ?_
          have h986 := (((((((hts.ext hE5).ext hE11).ext hE967).ext hE971).ext hE973).ext hE979).ext hE981)
          have h987 := (((((((hts2.ext hE5).ext hE11).ext hE967).ext hE971).ext hE973).ext hE979).ext hE981)
          refine WL.call rfl rfl rfl Ty.ent55 (compareFunc_ok _ _ _ _ _ _ _ _ _ T.subs U.subs Nd.cmpN h986 h987 (fun l l2 t u w2 h h1 h2 ht hu => Calls.caps20 (ih t ht _ _ _ _ _ _ h1 h2 (Nd.sok_subs hsT ht) (Nd.sok_subs hsU hu))) Ty.ent44) ?_
          rintro _ w989 ⟨rfl, hE988⟩
          have hzhE988 := hE988.size
          refine ⟨_, rfl, ?_⟩
          refine WL.assign rfl rfl rfl ?_
          refine WL.done' ?_ (fun _ _ h => h)
          refine WC.ret (fun a_ ha => ?_)
          exact bodyPost_tmp rfl ha rfl ⟨(by congr 2; rw [Nd.cmpN_eq]; (repeat' split) <;> first | rfl | (exfalso; omega) | (rw [Nd.orC_pos (a := Nd.orC (cmpI T.least U.least) (cmpI T.mostI U.mostI)) (by assumption)]) | (rw [Nd.orC_z (a := Nd.orC (cmpI T.least U.least) (cmpI T.mostI U.mostI)) (by assumption)])), (((((((hE5.trans hE11).trans hE967).trans hE971).trans hE973).trans hE979).trans hE981).trans hE988)⟩
        | true =>
          refine WL.neq rfl rfl rfl rfl hc983 ?_
          have hp983 := bne_iff_ne.1 hc983
          refine WL.done' ?_ (fun _ _ h => h)
          refine WC.cond_t rfl ?_
          refine WC.seqk ?_
          refine WC.region ?_
          refine WL.move rfl rfl rfl ?_
          refine WL.assign rfl rfl rfl ?_
          refine WL.done' ?_ (fun _ _ h => h)
          refine WC.ret (fun a_ ha => ?_)
          refine ret_block ?_
          refine ret_then ?_
          exact bodyPost_tmp rfl ha rfl ⟨(by congr 2; rw [Nd.cmpN_eq]; (repeat' split) <;> first | rfl | (exfalso; omega) | (rw [Nd.orC_pos (a := Nd.orC (cmpI T.least U.least) (cmpI T.mostI U.mostI)) (by assumption)]) | (rw [Nd.orC_z (a := Nd.orC (cmpI T.least U.least) (cmpI T.mostI U.mostI)) (by assumption)])), ((((((hE5.trans hE11).trans hE967).trans hE971).trans hE973).trans hE979).trans hE981)⟩
    | true =>
      refine WL.eql rfl rfl rfl rfl hc14 ?_
      have hp14 := beq_iff_eq.1 hc14
      refine WL.assign rfl rfl rfl ?_
      refine WL.done' ?_ (fun _ _ h => h)
      refine WC.cond_t rfl ?_
      refine WC.seqk ?_
      refine WC.region ?_
      refine WL.fieldAddr rfl rfl Ty.fld29_1 rfl ?_
      refine WL.load_part 4 rfl rfl rfl (hR4.ext hE11) rfl Ty.agg26 ?_
      refine WL.fieldAddr rfl rfl Ty.fld29_1 rfl ?_
      refine WL.load_part 4 rfl rfl rfl hR10 rfl Ty.agg26 ?_
      refine WL.call rfl rfl rfl Ty.ent51 (cmpS_ok _ T.set U.set (by first | exact Nd.sok_set hsT | exact Nd.sok_set hsU)) ?_
      rintro _ w66 ⟨rfl, hE65⟩
      have hzhE65 := hE65.size
      refine ⟨_, rfl, ?_⟩
      refine WL.assign rfl rfl rfl ?_
      refine WL.done' ?_ (fun _ _ h => h)
      refine WC.ret (fun a_ ha => ?_)
      refine ret_block ?_
      refine ret_then ?_
      exact bodyPost_tmp rfl ha rfl ⟨(by congr 2; rw [Nd.cmpN_eq]; (repeat' split) <;> first | rfl | (exfalso; omega) | (rw [Nd.orC_pos (a := Nd.orC (cmpI T.least U.least) (cmpI T.mostI U.mostI)) (by assumption)]) | (rw [Nd.orC_z (a := Nd.orC (cmpI T.least U.least) (cmpI T.mostI U.mostI)) (by assumption)])), ((hE5.trans hE11).trans hE65)⟩
  | true =>
    refine WL.neq rfl rfl rfl rfl hc13 ?_
    have hp13 := bne_iff_ne.1 hc13
    refine WL.done' ?_ (fun _ _ h => h)
    refine WC.cond_t rfl ?_
    refine WC.seqk ?_
    refine WC.region ?_
    refine WL.fieldAddr rfl rfl Ty.fld29_0 rfl ?_
    refine WL.load_fld rfl rfl Ty.flat5 rfl (hR4.ext hE11) rfl ?_
    refine WL.fieldAddr rfl rfl Ty.fld29_0 rfl ?_
    refine WL.load_fld rfl rfl Ty.flat5 rfl hR10 rfl ?_
    refine WL.call rfl rfl rfl Ty.ent50 (cmp_u8 T.kind U.kind _) ?_
    rintro _ w65 ⟨rfl, hE64⟩
    have hzhE64 := hE64.size
    refine ⟨_, rfl, ?_⟩
    refine WL.assign rfl rfl rfl ?_
    refine WL.done' ?_ (fun _ _ h => h)
    refine WC.ret (fun a_ ha => ?_)
    refine ret_then ?_
    exact bodyPost_tmp rfl ha rfl ⟨(by congr 2; rw [Nd.cmpN_eq]; (repeat' split) <;> first | rfl | (exfalso; omega) | (rw [Nd.orC_pos (a := Nd.orC (cmpI T.least U.least) (cmpI T.mostI U.mostI)) (by assumption)]) | (rw [Nd.orC_z (a := Nd.orC (cmpI T.least U.least) (cmpI T.mostI U.mostI)) (by assumption)])), ((hE5.trans hE11).trans hE64)⟩

set_option maxRecDepth 20000 in
set_option maxHeartbeats 4000000 in
theorem Compare_ok (D D2 : Nat → Prop) (w : World) (l l2 : List Value) (T U : Nd) (hT : NodeL D w l T) (hU : NodeL D2 w l2 U) (hsT : T.sok = true) (hsU : U.sok = true) :
    Calls Try.prog 30 #[.agg l.toArray, .agg l2.toArray] w fun e w' => e = .returned (.int .i64 (Nd.compare T U)) ∧ Ext w w' := by
  have hT := hT.lt
  obtain ⟨sl, rfl, hts⟩ := hT.opn
  obtain ⟨a, cap, rfl, hlen, -⟩ := hts.get
  have hU := hU.lt
  obtain ⟨sl2, rfl, hts2⟩ := hU.opn
  obtain ⟨a2, cap2, rfl, hlen2, -⟩ := hts2.get
  refine Calls.enter (args := [.agg #[.int .u8 T.kind, .int .u64 T.set.a, .int .u64 T.set.b, .int .u64 T.set.c, .int .u64 T.set.d, .int .i64 T.least, .int .i64 T.most, .slice a T.subs.length cap], .agg #[.int .u8 U.kind, .int .u64 U.set.a, .int .u64 U.set.b, .int .u64 U.set.c, .int .u64 U.set.d, .int .i64 U.least, .int .i64 U.most, .slice a2 U.subs.length cap2]]) Try.func30 rfl rfl rfl rfl ?_
  refine WC.seqk ?_
  refine WC.region ?_
  refine WL.box_agg rfl rfl rfl (fun b1 w6 hb2 hE5 hs3 hR4 => ?_)
  refine WL.box_agg rfl rfl rfl (fun b7 w12 hb8 hE11 hs9 hR10 => ?_)
  refine WL.assign rfl rfl rfl ?_
  refine WL.done' ?_ (fun _ _ h => h)
  refine WC.seqk ?_
  refine WC.seqk ?_
  refine WC.region ?_
  refine WL.load_box rfl rfl rfl (hR4.ext hE11) Ty.agg29 ?_
  have h13 := ((hT.ext hE5).ext hE11)
  refine WL.call rfl rfl rfl Ty.ent35 (light_ok _ _ _ _ h13) ?_
  rintro _ w15 ⟨rfl, hE14⟩
  have hzhE14 := hE14.size
  refine ⟨_, rfl, ?_⟩
  cases hc16 : Nd.light T with
  | false =>
    refine WL.not rfl rfl rfl ?_
    refine WL.move rfl rfl rfl ?_
    refine WL.pass rfl rfl ?_
    refine WL.pass rfl rfl ?_
    refine WL.pass rfl rfl ?_
    refine WL.pick_t rfl rfl rfl rfl ?_
    refine WL.done' ?_ (fun _ _ h => h)
    refine WC.cond_t rfl ?_
    refine WC.seqk ?_
    refine WC.weaken (r' := [(2, .pointer (some ⟨b1, 0, none⟩)), (3, .pointer (some ⟨b7, 0, none⟩)), (4, .int .i64 0), (12, .bool true)]) (subReg_cons rfl (subReg_cons rfl (subReg_cons rfl (subReg_cons rfl (subReg_nil _))))) ?_
    refine WC.region ?_
    refine WL.assign rfl rfl rfl ?_
    refine WL.done' ?_ (fun _ _ h => h)
    refine WC.ret (fun a_ ha => ?_)
    refine ret_then ?_
    exact bodyPost_tmp rfl ha rfl ⟨(by congr 2; simp [Nd.compare, hc16]), ((hE5.trans hE11).trans hE14)⟩
  | true =>
    refine WL.not rfl rfl rfl ?_
    refine WL.move rfl rfl rfl ?_
    refine WL.load_box rfl rfl rfl (hR10.ext hE14) Ty.agg29 ?_
    have h67 := (((hU.ext hE5).ext hE11).ext hE14)
    refine WL.call rfl rfl rfl Ty.ent35 (light_ok _ _ _ _ h67) ?_
    rintro _ w69 ⟨rfl, hE68⟩
    have hzhE68 := hE68.size
    refine ⟨_, rfl, ?_⟩
    cases hc70 : Nd.light U with
    | false =>
      refine WL.not rfl rfl rfl ?_
      refine WL.pick_f rfl rfl rfl rfl ?_
      refine WL.done' ?_ (fun _ _ h => h)
      refine WC.cond_t rfl ?_
      refine WC.seqk ?_
      refine WC.weaken (r' := [(2, .pointer (some ⟨b1, 0, none⟩)), (3, .pointer (some ⟨b7, 0, none⟩)), (4, .int .i64 0), (12, .bool true)]) (subReg_cons rfl (subReg_cons rfl (subReg_cons rfl (subReg_cons rfl (subReg_nil _))))) ?_
      refine WC.region ?_
      refine WL.assign rfl rfl rfl ?_
      refine WL.done' ?_ (fun _ _ h => h)
      refine WC.ret (fun a_ ha => ?_)
      refine ret_then ?_
      exact bodyPost_tmp rfl ha rfl ⟨(by congr 2; simp [Nd.compare, hc16, hc70]), (((hE5.trans hE11).trans hE14).trans hE68)⟩
    | true =>
      refine WL.not rfl rfl rfl ?_
      refine WL.pick_f rfl rfl rfl rfl ?_
      refine WL.done' ?_ (fun _ _ h => h)
      refine WC.cond_f rfl ?_
      refine WC.skip'' ?_ (fun _ _ h => h)
      refine WC.seqk ?_
      refine WC.weaken (r' := [(2, .pointer (some ⟨b1, 0, none⟩)), (3, .pointer (some ⟨b7, 0, none⟩)), (4, .int .i64 0), (12, .bool false)]) (subReg_cons rfl (subReg_cons rfl (subReg_cons rfl (subReg_cons rfl (subReg_nil _))))) ?_
      refine WC.region ?_
      have h121 := (((hR4.ext hE11).ext hE14).ext hE68)
      refine WL.load_box rfl rfl rfl h121 Ty.agg29 ?_
      have h122 := ((hR10.ext hE14).ext hE68)
      refine WL.load_box rfl rfl rfl h122 Ty.agg29 ?_
      have h123 := ((h13.ext hE14).ext hE68)
      refine WL.call rfl rfl rfl Ty.ent44 (compare_ok T _ _ _ _ _ U h123 (h67.ext hE68) hsT hsU) ?_
      rintro _ w125 ⟨rfl, hE124⟩
      have hzhE124 := hE124.size
      refine ⟨_, rfl, ?_⟩
      refine WL.assign rfl rfl rfl ?_
      refine WL.done' ?_ (fun _ _ h => h)
      refine WC.ret (fun a_ ha => ?_)
      exact bodyPost_tmp rfl ha rfl ⟨(by congr 2; simp [Nd.compare, hc16, hc70]), ((((hE5.trans hE11).trans hE14).trans hE68).trans hE124)⟩

end Go.Proofs.Ytaggidjijekpbaa
