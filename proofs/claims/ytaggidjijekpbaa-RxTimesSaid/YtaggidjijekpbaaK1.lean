/- Walks through the program's functions: each computes what the plain Lean function says. Printed by our own gen/r8.py. -/
import Derived.Test.YtaggidjijekpbaaJ
import Derived.Test.YtaggidjijekpbaaLawN
import Derived.KernelRfl
namespace Go.Proofs.Ytaggidjijekpbaa
open Go.Proofs Go.RowKit

set_option maxRecDepth 20000 in
set_option maxHeartbeats 4000000 in
theorem RxTimes_ok (w : World) (Dxs : Nat → Prop) (axs : Option Addr) (capxs : Nat) (xs : List (Int × Int × Int)) (hxxs : SmallV Dxs w (.slice axs xs.length capxs) xs) (mn mx : Int) :
    Calls Try.prog 4 #[.slice axs xs.length capxs, .int .i64 mn, .int .i64 mx] w fun e w' => e = .returned (.bool true) ∧ Ext w w' := by
  have hBxs : Nd.Bytes xs := fun q hq => by have := hxxs.2 q hq; omega
  obtain ⟨A, hA⟩ : ∃ T, T = Nd.made xs := ⟨_, rfl⟩
  have hmA : Nd.MadeOk A := hA ▸ Nd.made_ok' hBxs
  have hfA := hmA.fine
  have hsA := hmA.sizes
  have hpA := hmA.posns
  have hgA := hmA.groups
  refine Calls.enter (args := [.slice axs xs.length capxs, .int .i64 mn, .int .i64 mx]) Try.func4 rfl rfl rfl rfl ?_
  refine WC.seqk ?_
  refine WC.region ?_
  refine WL.assign rfl rfl rfl ?_
  refine WL.done' ?_ (fun _ _ h => h)
  refine WC.seqk ?_
  refine WC.seqk ?_
  refine WC.region ?_
  refine WL.call rfl rfl rfl Ty.ent8 (awake_ok _) ?_
  rintro _ w2 ⟨rfl, hE1⟩
  have hzhE1 := hE1.size
  refine ⟨_, rfl, ?_⟩
  refine WL.not rfl rfl rfl ?_
  refine WL.done' ?_ (fun _ _ h => h)
  refine WC.cond_f rfl ?_
  refine WC.skip'' ?_ (fun _ _ h => h)
  refine WC.seqk ?_
  refine WC.region ?_
  refine WL.move rfl rfl rfl ?_
  refine WL.call rfl rfl rfl Ty.ent9 (made_ok _ _ _ _ xs (hxxs.ext hE1)) ?_
  rintro _ w5 ⟨l3, rfl, hr3, hE4⟩
  have hzhE4 := hE4.size
  refine ⟨_, rfl, ?_⟩
  rw [← hA] at hr3
  have hn3 := hr3.lt
  obtain ⟨sl3, rfl, hts3⟩ := hn3.opn
  obtain ⟨a3, cap3, rfl, hlen3, -⟩ := hts3.get
  refine WL.alloc rfl rfl Ty.zero29 rfl (fun b6 w11 hb7 hE10 hs8 hR9 => ?_)
  refine WL.store_box rfl rfl rfl hR9 Ty.agg29 rfl rfl (fun w14 hB13 hR12 => ?_)
  have hzhB13 := hB13.size
  refine WL.done' ?_ (fun _ _ h => h)
  refine WC.seqk ?_
  refine WC.seqk ?_
  have h15 := ((hn3.ext hE10).but hB13 (by intro h1; first | omega | ((try dsimp only at h1); (repeat' first | (guard_hyp h1 : _ ∨ _; refine Or.elim h1 (fun h1 => ?_) (fun h1 => ?_)) | (guard_hyp h1 : _ ∧ _; have hx := h1.2; replace h1 := h1.1)) <;> first | contradiction | omega)))
  refine WC.weaken (r' := [(1, .int .i64 mn), (2, .int .i64 mx), (6, .bool false), (12, .bool false), (7, .pointer (some ⟨b6, 0, none⟩))]) (subReg_cons rfl (subReg_cons rfl (subReg_cons rfl (subReg_cons rfl (subReg_cons rfl (subReg_nil _)))))) ?_
  refine WC.draw 3 [15, 16, 17] [pc (.agg #[.int .u8 A.kind, .int .u64 A.set.a, .int .u64 A.set.b, .int .u64 A.set.c, .int .u64 A.set.d, .int .i64 A.least, .int .i64 A.most, .slice a3 A.subs.length cap3]), pnode (fun k => w14.heap.size ≤ k) (Nd.times A 1 1), pc (.agg #[.int .u8 A.kind, .int .u64 A.set.a, .int .u64 A.set.b, .int .u64 A.set.c, .int .u64 A.set.d, .int .i64 A.least, .int .i64 A.most, .slice a3 A.subs.length cap3])] (by kernel_rfl) (by kernel_rfl) ⟨KW_pc _, KW_pnode _ _, KW_pc _, trivial⟩ rfl rfl rfl (StepsOn.cons ?_ (StepsOn.cons ?_ (StepsOn.cons ?_ (StepsOn.nil _)))) ?_
  · intro σ β w1 hE1 hbi hk
    have hz1 := hE1.size
    refine ⟨[], (agree_nil _), ?_⟩
    refine WL.load_box rfl rfl rfl (hR12.ext hE1) Ty.agg29 ?_
    refine WL.nil (fun a_ ha => ?_)
    exact ⟨_, β, ha, (Ext.refl _), BExt.refl _ _, hbi.ext (Ext.refl _), rfl⟩
  · intro σ β w1 hE1 hbi hk
    have hz1 := hE1.size
    obtain ⟨_, hv1216, rfl⟩ := hk 0 (by kernel_rfl) _ _ rfl rfl
    refine ⟨[(15, .agg #[.int .u8 A.kind, .int .u64 A.set.a, .int .u64 A.set.b, .int .u64 A.set.c, .int .u64 A.set.d, .int .i64 A.least, .int .i64 A.most, .slice a3 A.subs.length cap3])], (agree_cons (look_right rfl hv1216) (agree_nil _)), ?_⟩
    refine WL.call rfl rfl rfl Ty.ent19 (times_ok _ _ _ A 1 1 (h15.ext hE1)) ?_
    rintro _ w1219 ⟨l1217, rfl, hr1217, hE1218⟩
    have hzhE1218 := hE1218.size
    refine ⟨_, rfl, ?_⟩
    have hn1217 := hr1217.lt
    obtain ⟨sl1217, rfl, hts1217⟩ := hn1217.opn
    obtain ⟨a1217, cap1217, rfl, hlen1217, -⟩ := hts1217.get
    refine WL.nil (fun a_ ha => ?_)
    exact ⟨_, β, ha, hE1218, BExt.refl _ _, hbi.ext hE1218, ⟨_, rfl, (hr1217.off0 hbi (fun k hk => Nat.le_trans hE1.size hk))⟩⟩
  · intro σ β w1 hE1 hbi hk
    have hz1 := hE1.size
    refine ⟨[], (agree_nil _), ?_⟩
    refine WL.load_box rfl rfl rfl (hR12.ext hE1) Ty.agg29 ?_
    refine WL.nil (fun a_ ha => ?_)
    exact ⟨_, β, ha, (Ext.refl _), BExt.refl _ _, hbi.ext (Ext.refl _), rfl⟩
  intro σ β w915 hE915 hbi915 hk
  have hz915 := hE915.size
  have hbi := hbi915
  obtain ⟨_, hv916, l916, rfl, hn916⟩ := hk 1 (by decide) _ _ rfl rfl
  have hn916 := hn916.lt
  obtain ⟨sl916, rfl, hts916⟩ := hn916.opn
  obtain ⟨a916, cap916, rfl, hlen916, -⟩ := hts916.get
  obtain ⟨_, hv917, rfl⟩ := hk 2 (by decide) _ _ rfl rfl
  refine WL.know [(16, .agg #[.int .u8 (Nd.times A 1 1).kind, .int .u64 (Nd.times A 1 1).set.a, .int .u64 (Nd.times A 1 1).set.b, .int .u64 (Nd.times A 1 1).set.c, .int .u64 (Nd.times A 1 1).set.d, .int .i64 (Nd.times A 1 1).least, .int .i64 (Nd.times A 1 1).most, .slice a916 (Nd.times A 1 1).subs.length cap916]), (17, .agg #[.int .u8 A.kind, .int .u64 A.set.a, .int .u64 A.set.b, .int .u64 A.set.c, .int .u64 A.set.d, .int .i64 A.least, .int .i64 A.most, .slice a3 A.subs.length cap3])] (agree_cons (look_right rfl hv916) (agree_cons (look_right rfl hv917) (agree_nil _))) ?_
  refine WL.call rfl rfl rfl Ty.ent14 (Same_ok _ _ _ _ _ (Nd.times A 1 1) A hn916 (h15.ext hE915)) ?_
  rintro _ w919 ⟨he, hE918⟩
  have hq : (Nd.light (Nd.times A 1 1) && Nd.light A && Nd.same (Nd.times A 1 1) A) = true := (by rw [Nd.times_one hfA]; exact Nd.Same_self hfA.light)
  rw [hq] at he
  subst he
  clear hq
  have hzhE918 := hE918.size
  refine ⟨_, rfl, ?_⟩
  refine WL.not rfl rfl rfl ?_
  refine WL.move rfl rfl rfl ?_
  have h920 := ((hR12.ext hE915).ext hE918)
  refine WL.load_box rfl rfl rfl h920 Ty.agg29 ?_
  have h921 := ((h15.ext hE915).ext hE918)
  refine WL.call rfl rfl rfl Ty.ent19 (times_ok _ _ _ A 0 0 h921) ?_
  rintro _ w924 ⟨l922, rfl, hr922, hE923⟩
  have hzhE923 := hE923.size
  refine ⟨_, rfl, ?_⟩
  have hn922 := hr922.lt
  obtain ⟨sl922, rfl, hts922⟩ := hn922.opn
  obtain ⟨a922, cap922, rfl, hlen922, -⟩ := hts922.get
  refine WL.field rfl rfl Ty.fty29_0 Ty.flat5 rfl rfl ?_
  refine WL.neq (b := false) rfl rfl rfl rfl (by rw [Nd.times_zero hfA]; rfl) ?_
  refine WL.pick_f rfl rfl rfl rfl ?_
  refine WL.done' ?_ (fun _ _ h => h)
  refine WC.cond_f rfl ?_
  refine WC.skip'' ?_ (fun _ _ h => h)
  refine WC.seqk ?_
  refine WC.weaken (r' := [(1, .int .i64 mn), (2, .int .i64 mx), (6, .bool false), (12, .bool false), (7, .pointer (some ⟨b6, 0, none⟩)), (25, .bool false)]) (subReg_cons rfl (subReg_cons rfl (subReg_cons rfl (subReg_cons rfl (subReg_cons rfl (subReg_cons rfl (subReg_nil _))))))) ?_
  refine WC.region ?_
  refine WL.load_box rfl rfl rfl (h920.ext hE923) Ty.agg29 ?_
  refine WL.move rfl rfl rfl ?_
  refine WL.move rfl rfl rfl ?_
  refine WL.call rfl rfl rfl Ty.ent19 (times_ok _ _ _ A mn mx (h921.ext hE923)) ?_
  rintro _ w927 ⟨l925, rfl, hr925, hE926⟩
  have hzhE926 := hE926.size
  refine ⟨_, rfl, ?_⟩
  have hn925 := hr925.lt
  obtain ⟨sl925, rfl, hts925⟩ := hn925.opn
  obtain ⟨a925, cap925, rfl, hlen925, -⟩ := hts925.get
  refine WL.alloc rfl rfl Ty.zero29 rfl (fun b928 w933 hb929 hE932 hs930 hR931 => ?_)
  refine WL.store_box rfl rfl rfl hR931 Ty.agg29 rfl rfl (fun w936 hB935 hR934 => ?_)
  have hzhB935 := hB935.size
  refine WL.done' ?_ (fun _ _ h => h)
  refine WC.seqk ?_
  refine WC.region ?_
  refine WL.move rfl rfl rfl ?_
  cases hc937 : decide ((0 : Int) ≤ mn) with
  | false =>
    refine WL.geq rfl rfl rfl rfl hc937 ?_
    have hp937 := of_decide_eq_false hc937
    refine WL.move rfl rfl rfl ?_
    refine WL.pass rfl rfl ?_
    refine WL.pass rfl rfl ?_
    refine WL.pick_f rfl rfl rfl rfl ?_
    refine WL.move rfl rfl rfl ?_
    refine WL.pass rfl rfl ?_
    refine WL.pass rfl rfl ?_
    refine WL.pass rfl rfl ?_
    refine WL.pass rfl rfl ?_
    refine WL.pass rfl rfl ?_
    refine WL.pass rfl rfl ?_
    refine WL.pass rfl rfl ?_
    refine WL.pass rfl rfl ?_
    refine WL.pass rfl rfl ?_
    refine WL.pass rfl rfl ?_
    refine WL.pass rfl rfl ?_
    refine WL.pick_f rfl rfl rfl rfl ?_
    refine WL.assign rfl rfl rfl ?_
    refine WL.done' ?_ (fun _ _ h => h)
    refine WC.seqk ?_
    refine WC.seqk ?_
    refine WC.weaken (r' := [(1, .int .i64 mn), (2, .int .i64 mx), (6, .bool false), (12, .bool false), (7, .pointer (some ⟨b6, 0, none⟩)), (25, .bool false), (8, .pointer (some ⟨b928, 0, none⟩)), (9, .bool false)]) (subReg_cons rfl (subReg_cons rfl (subReg_cons rfl (subReg_cons rfl (subReg_cons rfl (subReg_cons rfl (subReg_cons rfl (subReg_cons rfl (subReg_nil _))))))))) ?_
    refine WC.region ?_
    refine WL.move rfl rfl rfl ?_
    refine WL.not rfl rfl rfl ?_
    refine WL.done' ?_ (fun _ _ h => h)
    refine WC.cond_t rfl ?_
    refine WC.seqk ?_
    refine WC.region ?_
    refine WL.fieldAddr rfl rfl Ty.fld29_0 rfl ?_
    refine WL.load_fld rfl rfl Ty.flat5 rfl hR934 rfl ?_
    refine WL.eql (b := true) rfl rfl rfl rfl (by rw [Nd.times_bad (by omega)]; rfl) ?_
    refine WL.move rfl rfl rfl ?_
    refine WL.fieldAddr rfl rfl Ty.fld29_4 rfl ?_
    refine WL.load_fld rfl rfl Ty.flat27 rfl hR934 rfl ?_
    refine WL.len rfl rfl Try.underlying27 rfl ?_
    refine WL.eql (b := true) rfl rfl rfl rfl (by rw [Nd.times_bad (by omega)]; rfl) ?_
    refine WL.pick_t rfl rfl rfl rfl ?_
    refine WL.assign rfl rfl rfl ?_
    refine WL.done' ?_ (fun _ _ h => h)
    refine WC.ret (fun a_ ha => ?_)
    refine ret_then ?_
    exact bodyPost_tmp rfl ha rfl ⟨rfl, (hB935.onto ((((((hB13.onto ((hE1.trans hE4).trans hE10) (by omega)).trans hE915).trans hE918).trans hE923).trans hE926).trans hE932) (by omega))⟩
  | true =>
    refine WL.geq rfl rfl rfl rfl hc937 ?_
    have hp937 := of_decide_eq_true hc937
    refine WL.move rfl rfl rfl ?_
    refine WL.move rfl rfl rfl ?_
    cases hc988 : decide ((mn : Int) ≤ 16) with
    | false =>
      refine WL.leq rfl rfl rfl rfl hc988 ?_
      have hp988 := of_decide_eq_false hc988
      refine WL.pick_t rfl rfl rfl rfl ?_
      refine WL.move rfl rfl rfl ?_
      refine WL.pass rfl rfl ?_
      refine WL.pass rfl rfl ?_
      refine WL.pass rfl rfl ?_
      refine WL.pass rfl rfl ?_
      refine WL.pass rfl rfl ?_
      refine WL.pass rfl rfl ?_
      refine WL.pass rfl rfl ?_
      refine WL.pass rfl rfl ?_
      refine WL.pass rfl rfl ?_
      refine WL.pass rfl rfl ?_
      refine WL.pass rfl rfl ?_
      refine WL.pick_f rfl rfl rfl rfl ?_
      refine WL.assign rfl rfl rfl ?_
      refine WL.done' ?_ (fun _ _ h => h)
      refine WC.seqk ?_
      refine WC.seqk ?_
      refine WC.weaken (r' := [(1, .int .i64 mn), (2, .int .i64 mx), (6, .bool false), (12, .bool false), (7, .pointer (some ⟨b6, 0, none⟩)), (25, .bool false), (8, .pointer (some ⟨b928, 0, none⟩)), (9, .bool false)]) (subReg_cons rfl (subReg_cons rfl (subReg_cons rfl (subReg_cons rfl (subReg_cons rfl (subReg_cons rfl (subReg_cons rfl (subReg_cons rfl (subReg_nil _))))))))) ?_
      refine WC.region ?_
      refine WL.move rfl rfl rfl ?_
      refine WL.not rfl rfl rfl ?_
      refine WL.done' ?_ (fun _ _ h => h)
      refine WC.cond_t rfl ?_
      refine WC.seqk ?_
      refine WC.region ?_
      refine WL.fieldAddr rfl rfl Ty.fld29_0 rfl ?_
      refine WL.load_fld rfl rfl Ty.flat5 rfl hR934 rfl ?_
      refine WL.eql (b := true) rfl rfl rfl rfl (by rw [Nd.times_bad (by omega)]; rfl) ?_
      refine WL.move rfl rfl rfl ?_
      refine WL.fieldAddr rfl rfl Ty.fld29_4 rfl ?_
      refine WL.load_fld rfl rfl Ty.flat27 rfl hR934 rfl ?_
      refine WL.len rfl rfl Try.underlying27 rfl ?_
      refine WL.eql (b := true) rfl rfl rfl rfl (by rw [Nd.times_bad (by omega)]; rfl) ?_
      refine WL.pick_t rfl rfl rfl rfl ?_
      refine WL.assign rfl rfl rfl ?_
      refine WL.done' ?_ (fun _ _ h => h)
      refine WC.ret (fun a_ ha => ?_)
      refine ret_then ?_
      exact bodyPost_tmp rfl ha rfl ⟨rfl, (hB935.onto ((((((hB13.onto ((hE1.trans hE4).trans hE10) (by omega)).trans hE915).trans hE918).trans hE923).trans hE926).trans hE932) (by omega))⟩
    | true =>
      refine WL.leq rfl rfl rfl rfl hc988 ?_
      have hp988 := of_decide_eq_true hc988
      refine WL.pick_t rfl rfl rfl rfl ?_
      refine WL.move rfl rfl rfl ?_
      refine WL.move rfl rfl rfl ?_
      cases hc1039 : ((mx : Int) == (-1)) with
      | false =>
        refine WL.eql rfl rfl rfl rfl hc1039 ?_
        have hp1039 := beq_eq_false_iff_ne.1 hc1039
        refine WL.move rfl rfl rfl ?_
        refine WL.move rfl rfl rfl ?_
        refine WL.move rfl rfl rfl ?_
        cases hc1040 : decide ((mn : Int) ≤ mx) with
        | false =>
          refine WL.geq rfl rfl rfl rfl hc1040 ?_
          have hp1040 := of_decide_eq_false hc1040
          refine WL.move rfl rfl rfl ?_
          refine WL.pass rfl rfl ?_
          refine WL.pass rfl rfl ?_
          refine WL.pick_f rfl rfl rfl rfl ?_
          refine WL.pick_f rfl rfl rfl rfl ?_
          refine WL.pick_t rfl rfl rfl rfl ?_
          refine WL.assign rfl rfl rfl ?_
          refine WL.done' ?_ (fun _ _ h => h)
          refine WC.seqk ?_
          refine WC.seqk ?_
          refine WC.weaken (r' := [(1, .int .i64 mn), (2, .int .i64 mx), (6, .bool false), (12, .bool false), (7, .pointer (some ⟨b6, 0, none⟩)), (25, .bool false), (8, .pointer (some ⟨b928, 0, none⟩)), (9, .bool false)]) (subReg_cons rfl (subReg_cons rfl (subReg_cons rfl (subReg_cons rfl (subReg_cons rfl (subReg_cons rfl (subReg_cons rfl (subReg_cons rfl (subReg_nil _))))))))) ?_
          refine WC.region ?_
          refine WL.move rfl rfl rfl ?_
          refine WL.not rfl rfl rfl ?_
          refine WL.done' ?_ (fun _ _ h => h)
          refine WC.cond_t rfl ?_
          refine WC.seqk ?_
          refine WC.region ?_
          refine WL.fieldAddr rfl rfl Ty.fld29_0 rfl ?_
          refine WL.load_fld rfl rfl Ty.flat5 rfl hR934 rfl ?_
          refine WL.eql (b := true) rfl rfl rfl rfl (by rw [Nd.times_bad (by omega)]; rfl) ?_
          refine WL.move rfl rfl rfl ?_
          refine WL.fieldAddr rfl rfl Ty.fld29_4 rfl ?_
          refine WL.load_fld rfl rfl Ty.flat27 rfl hR934 rfl ?_
          refine WL.len rfl rfl Try.underlying27 rfl ?_
          refine WL.eql (b := true) rfl rfl rfl rfl (by rw [Nd.times_bad (by omega)]; rfl) ?_
          refine WL.pick_t rfl rfl rfl rfl ?_
          refine WL.assign rfl rfl rfl ?_
          refine WL.done' ?_ (fun _ _ h => h)
          refine WC.ret (fun a_ ha => ?_)
          refine ret_then ?_
          exact bodyPost_tmp rfl ha rfl ⟨rfl, (hB935.onto ((((((hB13.onto ((hE1.trans hE4).trans hE10) (by omega)).trans hE915).trans hE918).trans hE923).trans hE926).trans hE932) (by omega))⟩
        | true =>
          refine WL.geq rfl rfl rfl rfl hc1040 ?_
          have hp1040 := of_decide_eq_true hc1040
          refine WL.move rfl rfl rfl ?_
          refine WL.move rfl rfl rfl ?_
          cases hc1091 : decide ((mx : Int) ≤ 16) with
          | false =>
            refine WL.leq rfl rfl rfl rfl hc1091 ?_
            have hp1091 := of_decide_eq_false hc1091
            refine WL.pick_t rfl rfl rfl rfl ?_
            refine WL.pick_f rfl rfl rfl rfl ?_
            refine WL.pick_t rfl rfl rfl rfl ?_
            refine WL.assign rfl rfl rfl ?_
            refine WL.done' ?_ (fun _ _ h => h)
            refine WC.seqk ?_
            refine WC.seqk ?_
            refine WC.weaken (r' := [(1, .int .i64 mn), (2, .int .i64 mx), (6, .bool false), (12, .bool false), (7, .pointer (some ⟨b6, 0, none⟩)), (25, .bool false), (8, .pointer (some ⟨b928, 0, none⟩)), (9, .bool false)]) (subReg_cons rfl (subReg_cons rfl (subReg_cons rfl (subReg_cons rfl (subReg_cons rfl (subReg_cons rfl (subReg_cons rfl (subReg_cons rfl (subReg_nil _))))))))) ?_
            refine WC.region ?_
            refine WL.move rfl rfl rfl ?_
            refine WL.not rfl rfl rfl ?_
            refine WL.done' ?_ (fun _ _ h => h)
            refine WC.cond_t rfl ?_
            refine WC.seqk ?_
            refine WC.region ?_
            refine WL.fieldAddr rfl rfl Ty.fld29_0 rfl ?_
            refine WL.load_fld rfl rfl Ty.flat5 rfl hR934 rfl ?_
            refine WL.eql (b := true) rfl rfl rfl rfl (by rw [Nd.times_bad (by omega)]; rfl) ?_
            refine WL.move rfl rfl rfl ?_
            refine WL.fieldAddr rfl rfl Ty.fld29_4 rfl ?_
            refine WL.load_fld rfl rfl Ty.flat27 rfl hR934 rfl ?_
            refine WL.len rfl rfl Try.underlying27 rfl ?_
            refine WL.eql (b := true) rfl rfl rfl rfl (by rw [Nd.times_bad (by omega)]; rfl) ?_
            refine WL.pick_t rfl rfl rfl rfl ?_
            refine WL.assign rfl rfl rfl ?_
            refine WL.done' ?_ (fun _ _ h => h)
            refine WC.ret (fun a_ ha => ?_)
            refine ret_then ?_
            exact bodyPost_tmp rfl ha rfl ⟨rfl, (hB935.onto ((((((hB13.onto ((hE1.trans hE4).trans hE10) (by omega)).trans hE915).trans hE918).trans hE923).trans hE926).trans hE932) (by omega))⟩
          | true =>
            refine WL.leq rfl rfl rfl rfl hc1091 ?_
            have hp1091 := of_decide_eq_true hc1091
            refine WL.pick_t rfl rfl rfl rfl ?_
            refine WL.pick_f rfl rfl rfl rfl ?_
            refine WL.pick_t rfl rfl rfl rfl ?_
            refine WL.assign rfl rfl rfl ?_
            refine WL.done' ?_ (fun _ _ h => h)
            refine WC.seqk ?_
            refine WC.seqk ?_
            refine WC.weaken (r' := [(1, .int .i64 mn), (2, .int .i64 mx), (6, .bool false), (12, .bool false), (7, .pointer (some ⟨b6, 0, none⟩)), (25, .bool false), (8, .pointer (some ⟨b928, 0, none⟩)), (9, .bool true)]) (subReg_cons rfl (subReg_cons rfl (subReg_cons rfl (subReg_cons rfl (subReg_cons rfl (subReg_cons rfl (subReg_cons rfl (subReg_cons rfl (subReg_nil _))))))))) ?_
            refine WC.region ?_
            refine WL.move rfl rfl rfl ?_
            refine WL.not rfl rfl rfl ?_
            refine WL.done' ?_ (fun _ _ h => h)
            refine WC.cond_f rfl ?_
            refine WC.skip'' ?_ (fun _ _ h => h)
            refine WC.seqk ?_
            refine WC.seqk ?_
            refine WC.region ?_
            refine WL.fieldAddr rfl rfl Ty.fld29_0 rfl ?_
            have h1142 := (hB935.row (((h920.ext hE923).ext hE926).ext hE932) (by omega))
            refine WL.load_fld rfl rfl Ty.flat5 rfl h1142 rfl ?_
            cases hc1143 : ((A.kind : Int) == 1) with
            | false =>
              refine WL.eql rfl rfl rfl rfl hc1143 ?_
              have hp1143 := beq_eq_false_iff_ne.1 hc1143
              refine WL.move rfl rfl rfl ?_
              refine WL.move rfl rfl rfl ?_
              cases hc1144 : ((mx : Int) == 0) with
              | false =>
                refine WL.eql rfl rfl rfl rfl hc1144 ?_
                have hp1144 := beq_eq_false_iff_ne.1 hc1144
                refine WL.pick_f rfl rfl rfl rfl ?_
                refine WL.done' ?_ (fun _ _ h => h)
                refine WC.cond_f rfl ?_
                refine WC.skip'' ?_ (fun _ _ h => h)
                refine WC.seqk ?_
                refine WC.seqk ?_
                refine WC.weaken (r' := [(1, .int .i64 mn), (2, .int .i64 mx), (6, .bool false), (12, .bool false), (7, .pointer (some ⟨b6, 0, none⟩)), (25, .bool false), (8, .pointer (some ⟨b928, 0, none⟩)), (50, .bool false), (66, .bool false)]) (subReg_cons rfl (subReg_cons rfl (subReg_cons rfl (subReg_cons rfl (subReg_cons rfl (subReg_cons rfl (subReg_cons rfl (subReg_cons rfl (subReg_cons rfl (subReg_nil _)))))))))) ?_
                refine WC.region ?_
                refine WL.move rfl rfl rfl ?_
                cases hc1145 : ((mn : Int) == 1) with
                | false =>
                  refine WL.eql rfl rfl rfl rfl hc1145 ?_
                  have hp1145 := beq_eq_false_iff_ne.1 hc1145
                  refine WL.move rfl rfl rfl ?_
                  refine WL.pass rfl rfl ?_
                  refine WL.pass rfl rfl ?_
                  refine WL.pick_f rfl rfl rfl rfl ?_
                  refine WL.done' ?_ (fun _ _ h => h)
                  refine WC.cond_f rfl ?_
                  refine WC.skip'' ?_ (fun _ _ h => h)
                  refine WC.seqk ?_
                  refine WC.region ?_
                  refine WL.move rfl rfl rfl ?_
                  refine WL.move rfl rfl rfl ?_
                  refine WL.max3 (v := Nd.max3 mn mx 1) rfl rfl rfl rfl rfl rfl ?_
                  refine WL.assign rfl rfl rfl ?_
                  refine WL.done' ?_ (fun _ _ h => h)
                  refine WC.seqk ?_
                  have h1146 := ((hts925.ext hE932).but hB935 (by intro h1; first | omega | ((try dsimp only at h1); (repeat' first | (guard_hyp h1 : _ ∨ _; refine Or.elim h1 (fun h1 => ?_) (fun h1 => ?_)) | (guard_hyp h1 : _ ∧ _; have hx := h1.2; replace h1 := h1.1)) <;> first | contradiction | omega)))
                  obtain ⟨t1147, ht1147⟩ : ∃ t, (Nd.times A mn mx).subs[0]? = some t := ⟨_, List.getElem?_eq_getElem (by rw [(Nd.times_rep hfA (by omega) (by omega) (by omega) (by omega))]; exact Nat.zero_lt_one)⟩
                  obtain ⟨eb1147, eo1147, el1147, hea1147, hD1147, her1147, hn1147⟩ := h1146.at ht1147
                  obtain ⟨sl1147, rfl, hts1147⟩ := hn1147.opn
                  obtain ⟨a1147, cap1147, rfl, hlen1147, -⟩ := hts1147.get
                  subst hea1147
                  have h0t1147 : t1147 = A := by rw [(Nd.times_rep hfA (by omega) (by omega) (by omega) (by omega))] at ht1147; exact (Option.some.inj ht1147).symm
                  have h1148 := ((((h921.ext hE923).ext hE926).ext hE932).but hB935 (by intro h1; first | omega | ((try dsimp only at h1); (repeat' first | (guard_hyp h1 : _ ∨ _; refine Or.elim h1 (fun h1 => ?_) (fun h1 => ?_)) | (guard_hyp h1 : _ ∧ _; have hx := h1.2; replace h1 := h1.1)) <;> first | contradiction | omega)))
                  have h1149 := ((hn925.ext hE932).but hB935 (by intro h1; first | omega | ((try dsimp only at h1); (repeat' first | (guard_hyp h1 : _ ∨ _; refine Or.elim h1 (fun h1 => ?_) (fun h1 => ?_)) | (guard_hyp h1 : _ ∧ _; have hx := h1.2; replace h1 := h1.1)) <;> first | contradiction | omega)))
                  refine WC.weaken (r' := [(1, .int .i64 mn), (2, .int .i64 mx), (6, .bool false), (12, .bool false), (7, .pointer (some ⟨b6, 0, none⟩)), (25, .bool false), (8, .pointer (some ⟨b928, 0, none⟩)), (50, .bool false), (66, .bool false), (75, .bool false), (10, .int .i64 (Nd.max3 mn mx 1))]) (subReg_cons rfl (subReg_cons rfl (subReg_cons rfl (subReg_cons rfl (subReg_cons rfl (subReg_cons rfl (subReg_cons rfl (subReg_cons rfl (subReg_cons rfl (subReg_cons rfl (subReg_cons rfl (subReg_nil _)))))))))))) ?_
                  refine WC.draw 50 [82, 83, 84, 85, 86, 87, 88, 89, 90, 91, 92, 93, 94, 95, 96, 97, 98, 99, 100, 101, 102, 103, 104, 105, 106, 107, 108, 109, 110, 111, 112, 113, 114, 115, 116, 117, 118, 119, 120, 121, 122, 123, 124, 125, 126, 127, 128, 129, 130, 131] [pc (.agg #[.int .u8 (Nd.times A mn mx).kind, .int .u64 (Nd.times A mn mx).set.a, .int .u64 (Nd.times A mn mx).set.b, .int .u64 (Nd.times A mn mx).set.c, .int .u64 (Nd.times A mn mx).set.d, .int .i64 (Nd.times A mn mx).least, .int .i64 (Nd.times A mn mx).most, .slice (some ⟨eb1147, eo1147, none⟩) (Nd.times A mn mx).subs.length cap925]), pc (.bool true), pc (.bool true), pc (.pointer (some ⟨b928, 0, none⟩)), pc (.int .u8 ((Nd.times A mn mx).kind)), pc (.bool true), pc (.bool true), pc (.bool true), pc (.pointer (some ⟨b928, 5, none⟩)), pc (.int .i64 ((Nd.times A mn mx).least)), pc (.int .i64 mn), pc (.bool true), pc (.bool true), pc (.bool true), pc (.pointer (some ⟨b928, 6, none⟩)), pc (.int .i64 ((Nd.times A mn mx).most)), pc (.int .i64 mx), pc (.bool true), pc (.bool true), pc (.bool true), pc (.pointer (some ⟨b928, 7, none⟩)), pc (.slice (some ⟨eb1147, eo1147, none⟩) ((Nd.times A mn mx).subs.length) cap925), pc (.int .i64 ((Nd.times A mn mx).subs.length)), pc (.bool true), pc (.bool true), pc (.bool true), pc (.pointer (some ⟨b928, 7, none⟩)), pc (.slice (some ⟨eb1147, eo1147, none⟩) ((Nd.times A mn mx).subs.length) cap925), pc (.pointer (some ⟨eb1147, eo1147 + 0 * 8, none⟩)), pc (.agg #[.int .u8 t1147.kind, .int .u64 t1147.set.a, .int .u64 t1147.set.b, .int .u64 t1147.set.c, .int .u64 t1147.set.d, .int .i64 t1147.least, .int .i64 t1147.most, .slice a1147 t1147.subs.length cap1147]), pc (.agg #[.int .u8 A.kind, .int .u64 A.set.a, .int .u64 A.set.b, .int .u64 A.set.c, .int .u64 A.set.d, .int .i64 A.least, .int .i64 A.most, .slice a3 A.subs.length cap3]), pc (.bool true), pc (.bool true), pc (.bool true), pc (.agg #[.int .u8 (Nd.times A mn mx).kind, .int .u64 (Nd.times A mn mx).set.a, .int .u64 (Nd.times A mn mx).set.b, .int .u64 (Nd.times A mn mx).set.c, .int .u64 (Nd.times A mn mx).set.d, .int .i64 (Nd.times A mn mx).least, .int .i64 (Nd.times A mn mx).most, .slice (some ⟨eb1147, eo1147, none⟩) (Nd.times A mn mx).subs.length cap925]), pc (.int .i64 (Nd.posns (Nd.times A mn mx))), pc (.int .i64 (Nd.max3 mn mx 1)), pc (.agg #[.int .u8 A.kind, .int .u64 A.set.a, .int .u64 A.set.b, .int .u64 A.set.c, .int .u64 A.set.d, .int .i64 A.least, .int .i64 A.most, .slice a3 A.subs.length cap3]), pc (.int .i64 (Nd.posns A)), pc (.int .i64 (Nd.max3 mn mx 1 * (Nd.posns A))), pc (.bool true), pc (.bool true), pc (.bool true), pc (.agg #[.int .u8 (Nd.times A mn mx).kind, .int .u64 (Nd.times A mn mx).set.a, .int .u64 (Nd.times A mn mx).set.b, .int .u64 (Nd.times A mn mx).set.c, .int .u64 (Nd.times A mn mx).set.d, .int .i64 (Nd.times A mn mx).least, .int .i64 (Nd.times A mn mx).most, .slice (some ⟨eb1147, eo1147, none⟩) (Nd.times A mn mx).subs.length cap925]), pc (.int .i64 (Nd.sizes (Nd.times A mn mx))), pc (.agg #[.int .u8 A.kind, .int .u64 A.set.a, .int .u64 A.set.b, .int .u64 A.set.c, .int .u64 A.set.d, .int .i64 A.least, .int .i64 A.most, .slice a3 A.subs.length cap3]), pc (.int .i64 (Nd.sizes A)), pc (.int .i64 (1 + (Nd.sizes A))), pc (.bool true), pc (.bool true)] (by kernel_rfl) (by kernel_rfl) ⟨KW_pc _, KW_pc _, KW_pc _, KW_pc _, KW_pc _, KW_pc _, KW_pc _, KW_pc _, KW_pc _, KW_pc _, KW_pc _, KW_pc _, KW_pc _, KW_pc _, KW_pc _, KW_pc _, KW_pc _, KW_pc _, KW_pc _, KW_pc _, KW_pc _, KW_pc _, KW_pc _, KW_pc _, KW_pc _, KW_pc _, KW_pc _, KW_pc _, KW_pc _, KW_pc _, KW_pc _, KW_pc _, KW_pc _, KW_pc _, KW_pc _, KW_pc _, KW_pc _, KW_pc _, KW_pc _, KW_pc _, KW_pc _, KW_pc _, KW_pc _, KW_pc _, KW_pc _, KW_pc _, KW_pc _, KW_pc _, KW_pc _, KW_pc _, trivial⟩ rfl rfl rfl (StepsOn.cons ?_ (StepsOn.cons ?_ (StepsOn.cons ?_ (StepsOn.cons ?_ (StepsOn.cons ?_ (StepsOn.cons ?_ (StepsOn.cons ?_ (StepsOn.cons ?_ (StepsOn.cons ?_ (StepsOn.cons ?_ (StepsOn.cons ?_ (StepsOn.cons ?_ (StepsOn.cons ?_ (StepsOn.cons ?_ (StepsOn.cons ?_ (StepsOn.cons ?_ (StepsOn.cons ?_ (StepsOn.cons ?_ (StepsOn.cons ?_ (StepsOn.cons ?_ (StepsOn.cons ?_ (StepsOn.cons ?_ (StepsOn.cons ?_ (StepsOn.cons ?_ (StepsOn.cons ?_ (StepsOn.cons ?_ (StepsOn.cons ?_ (StepsOn.cons ?_ (StepsOn.cons ?_ (StepsOn.cons ?_ (StepsOn.cons ?_ (StepsOn.cons ?_ (StepsOn.cons ?_ (StepsOn.cons ?_ (StepsOn.cons ?_ (StepsOn.cons ?_ (StepsOn.cons ?_ (StepsOn.cons ?_ (StepsOn.cons ?_ (StepsOn.cons ?_ (StepsOn.cons ?_ (StepsOn.cons ?_ (StepsOn.cons ?_ (StepsOn.cons ?_ (StepsOn.cons ?_ (StepsOn.cons ?_ (StepsOn.cons ?_ (StepsOn.cons ?_ (StepsOn.cons ?_ (StepsOn.cons ?_ (StepsOn.nil _))))))))))))))))))))))))))))))))))))))))))))))))))) ?_
                  · intro σ β w1 hE1 hbi hk
                    have hz1 := hE1.size
                    refine ⟨[], (agree_nil _), ?_⟩
                    refine WL.load_box rfl rfl rfl (hR934.ext hE1) Ty.agg29 ?_
                    refine WL.nil (fun a_ ha => ?_)
                    exact ⟨_, β, ha, (Ext.refl _), BExt.refl _ _, hbi.ext (Ext.refl _), rfl⟩
                  · intro σ β w1 hE1 hbi hk
                    have hz1 := hE1.size
                    obtain ⟨_, hv2350, rfl⟩ := hk 0 (by kernel_rfl) _ _ rfl rfl
                    refine ⟨[(82, .agg #[.int .u8 (Nd.times A mn mx).kind, .int .u64 (Nd.times A mn mx).set.a, .int .u64 (Nd.times A mn mx).set.b, .int .u64 (Nd.times A mn mx).set.c, .int .u64 (Nd.times A mn mx).set.d, .int .i64 (Nd.times A mn mx).least, .int .i64 (Nd.times A mn mx).most, .slice (some ⟨eb1147, eo1147, none⟩) (Nd.times A mn mx).subs.length cap925])], (agree_cons (look_right rfl hv2350) (agree_nil _)), ?_⟩
                    refine WL.call rfl rfl rfl Ty.ent12 (clean_ok _ _ _ _ (h1149.ext hE1)) ?_
                    rintro _ w2352 ⟨he, hE2351⟩
                    have hq : (Nd.clean (Nd.times A mn mx)) = true := (by rw [(Nd.times_rep hfA (by omega) (by omega) (by omega) (by omega))]; exact (Nd.rep_fine hmA (by omega) (by omega) (by omega) (by omega)).clean)
                    rw [hq] at he
                    subst he
                    clear hq
                    have hzhE2351 := hE2351.size
                    refine ⟨_, rfl, ?_⟩
                    refine WL.nil (fun a_ ha => ?_)
                    exact ⟨_, β, ha, hE2351, BExt.refl _ _, hbi.ext hE2351, rfl⟩
                  · intro σ β w1 hE1 hbi hk
                    have hz1 := hE1.size
                    obtain ⟨_, hv2450, rfl⟩ := hk 1 (by kernel_rfl) _ _ rfl rfl
                    refine ⟨[(83, .bool true)], (agree_cons (look_right rfl hv2450) (agree_nil _)), ?_⟩
                    refine WL.move rfl rfl rfl ?_
                    refine WL.nil (fun a_ ha => ?_)
                    exact ⟨_, β, ha, (Ext.refl _), BExt.refl _ _, hbi.ext (Ext.refl _), rfl⟩
                  · intro σ β w1 hE1 hbi hk
                    have hz1 := hE1.size
                    obtain ⟨_, hv2550, rfl⟩ := hk 2 (by kernel_rfl) _ _ rfl rfl
                    refine ⟨[(84, .bool true)], (agree_cons (look_right rfl hv2550) (agree_nil _)), ?_⟩
                    refine WL.fieldAddr rfl rfl Ty.fld29_0 rfl ?_
                    refine WL.nil (fun a_ ha => ?_)
                    exact ⟨_, β, ha, (Ext.refl _), BExt.refl _ _, hbi.ext (Ext.refl _), rfl⟩
                  · intro σ β w1 hE1 hbi hk
                    have hz1 := hE1.size
                    obtain ⟨_, hv2650, rfl⟩ := hk 2 (by kernel_rfl) _ _ rfl rfl
                    obtain ⟨_, hv2651, rfl⟩ := hk 3 (by kernel_rfl) _ _ rfl rfl
                    refine ⟨[(84, .bool true), (85, .pointer (some ⟨b928, 0, none⟩))], (agree_cons (look_right rfl hv2650) (agree_cons (look_right rfl hv2651) (agree_nil _))), ?_⟩
                    refine WL.load_fld rfl rfl Ty.flat5 rfl (hR934.ext hE1) rfl ?_
                    refine WL.nil (fun a_ ha => ?_)
                    exact ⟨_, β, ha, (Ext.refl _), BExt.refl _ _, hbi.ext (Ext.refl _), rfl⟩
                  · intro σ β w1 hE1 hbi hk
                    have hz1 := hE1.size
                    obtain ⟨_, hv2750, rfl⟩ := hk 2 (by kernel_rfl) _ _ rfl rfl
                    obtain ⟨_, hv2751, rfl⟩ := hk 4 (by kernel_rfl) _ _ rfl rfl
                    refine ⟨[(84, .bool true), (86, .int .u8 ((Nd.times A mn mx).kind))], (agree_cons (look_right rfl hv2750) (agree_cons (look_right rfl hv2751) (agree_nil _))), ?_⟩
                    refine WL.eql (b := true) rfl rfl rfl rfl (by rw [(Nd.times_rep hfA (by omega) (by omega) (by omega) (by omega))]; rfl) ?_
                    refine WL.nil (fun a_ ha => ?_)
                    exact ⟨_, β, ha, (Ext.refl _), BExt.refl _ _, hbi.ext (Ext.refl _), rfl⟩
                  · intro σ β w1 hE1 hbi hk
                    have hz1 := hE1.size
                    obtain ⟨_, hv2850, rfl⟩ := hk 2 (by kernel_rfl) _ _ rfl rfl
                    obtain ⟨_, hv2851, rfl⟩ := hk 5 (by kernel_rfl) _ _ rfl rfl
                    refine ⟨[(84, .bool true), (87, .bool true)], (agree_cons (look_right rfl hv2850) (agree_cons (look_right rfl hv2851) (agree_nil _))), ?_⟩
                    refine WL.pick_t rfl rfl rfl rfl ?_
                    refine WL.nil (fun a_ ha => ?_)
                    exact ⟨_, β, ha, (Ext.refl _), BExt.refl _ _, hbi.ext (Ext.refl _), rfl⟩
                  · intro σ β w1 hE1 hbi hk
                    have hz1 := hE1.size
                    obtain ⟨_, hv2950, rfl⟩ := hk 6 (by kernel_rfl) _ _ rfl rfl
                    refine ⟨[(88, .bool true)], (agree_cons (look_right rfl hv2950) (agree_nil _)), ?_⟩
                    refine WL.move rfl rfl rfl ?_
                    refine WL.nil (fun a_ ha => ?_)
                    exact ⟨_, β, ha, (Ext.refl _), BExt.refl _ _, hbi.ext (Ext.refl _), rfl⟩
                  · intro σ β w1 hE1 hbi hk
                    have hz1 := hE1.size
                    obtain ⟨_, hv3050, rfl⟩ := hk 7 (by kernel_rfl) _ _ rfl rfl
                    refine ⟨[(89, .bool true)], (agree_cons (look_right rfl hv3050) (agree_nil _)), ?_⟩
                    refine WL.fieldAddr rfl rfl Ty.fld29_2 rfl ?_
                    refine WL.nil (fun a_ ha => ?_)
                    exact ⟨_, β, ha, (Ext.refl _), BExt.refl _ _, hbi.ext (Ext.refl _), rfl⟩
                  · intro σ β w1 hE1 hbi hk
                    have hz1 := hE1.size
                    obtain ⟨_, hv3150, rfl⟩ := hk 7 (by kernel_rfl) _ _ rfl rfl
                    obtain ⟨_, hv3151, rfl⟩ := hk 8 (by kernel_rfl) _ _ rfl rfl
                    refine ⟨[(89, .bool true), (90, .pointer (some ⟨b928, 5, none⟩))], (agree_cons (look_right rfl hv3150) (agree_cons (look_right rfl hv3151) (agree_nil _))), ?_⟩
                    refine WL.load_fld rfl rfl Ty.flat3 rfl (hR934.ext hE1) rfl ?_
                    refine WL.nil (fun a_ ha => ?_)
                    exact ⟨_, β, ha, (Ext.refl _), BExt.refl _ _, hbi.ext (Ext.refl _), rfl⟩
                  · intro σ β w1 hE1 hbi hk
                    have hz1 := hE1.size
                    obtain ⟨_, hv3250, rfl⟩ := hk 7 (by kernel_rfl) _ _ rfl rfl
                    refine ⟨[(89, .bool true)], (agree_cons (look_right rfl hv3250) (agree_nil _)), ?_⟩
                    refine WL.move rfl rfl rfl ?_
                    refine WL.nil (fun a_ ha => ?_)
                    exact ⟨_, β, ha, (Ext.refl _), BExt.refl _ _, hbi.ext (Ext.refl _), rfl⟩
                  · intro σ β w1 hE1 hbi hk
                    have hz1 := hE1.size
                    obtain ⟨_, hv3350, rfl⟩ := hk 7 (by kernel_rfl) _ _ rfl rfl
                    obtain ⟨_, hv3351, rfl⟩ := hk 9 (by kernel_rfl) _ _ rfl rfl
                    obtain ⟨_, hv3352, rfl⟩ := hk 10 (by kernel_rfl) _ _ rfl rfl
                    refine ⟨[(89, .bool true), (91, .int .i64 ((Nd.times A mn mx).least)), (92, .int .i64 mn)], (agree_cons (look_right rfl hv3350) (agree_cons (look_right rfl hv3351) (agree_cons (look_right rfl hv3352) (agree_nil _)))), ?_⟩
                    refine WL.eql (b := true) rfl rfl rfl rfl (by rw [(Nd.times_rep hfA (by omega) (by omega) (by omega) (by omega))]; exact beq_self_eq_true mn) ?_
                    refine WL.nil (fun a_ ha => ?_)
                    exact ⟨_, β, ha, (Ext.refl _), BExt.refl _ _, hbi.ext (Ext.refl _), rfl⟩
                  · intro σ β w1 hE1 hbi hk
                    have hz1 := hE1.size
                    obtain ⟨_, hv3450, rfl⟩ := hk 7 (by kernel_rfl) _ _ rfl rfl
                    obtain ⟨_, hv3451, rfl⟩ := hk 11 (by kernel_rfl) _ _ rfl rfl
                    refine ⟨[(89, .bool true), (93, .bool true)], (agree_cons (look_right rfl hv3450) (agree_cons (look_right rfl hv3451) (agree_nil _))), ?_⟩
                    refine WL.pick_t rfl rfl rfl rfl ?_
                    refine WL.nil (fun a_ ha => ?_)
                    exact ⟨_, β, ha, (Ext.refl _), BExt.refl _ _, hbi.ext (Ext.refl _), rfl⟩
                  · intro σ β w1 hE1 hbi hk
                    have hz1 := hE1.size
                    obtain ⟨_, hv3550, rfl⟩ := hk 12 (by kernel_rfl) _ _ rfl rfl
                    refine ⟨[(94, .bool true)], (agree_cons (look_right rfl hv3550) (agree_nil _)), ?_⟩
                    refine WL.move rfl rfl rfl ?_
                    refine WL.nil (fun a_ ha => ?_)
                    exact ⟨_, β, ha, (Ext.refl _), BExt.refl _ _, hbi.ext (Ext.refl _), rfl⟩
                  · intro σ β w1 hE1 hbi hk
                    have hz1 := hE1.size
                    obtain ⟨_, hv3650, rfl⟩ := hk 13 (by kernel_rfl) _ _ rfl rfl
                    refine ⟨[(95, .bool true)], (agree_cons (look_right rfl hv3650) (agree_nil _)), ?_⟩
                    refine WL.fieldAddr rfl rfl Ty.fld29_3 rfl ?_
                    refine WL.nil (fun a_ ha => ?_)
                    exact ⟨_, β, ha, (Ext.refl _), BExt.refl _ _, hbi.ext (Ext.refl _), rfl⟩
                  · intro σ β w1 hE1 hbi hk
                    have hz1 := hE1.size
                    obtain ⟨_, hv3750, rfl⟩ := hk 13 (by kernel_rfl) _ _ rfl rfl
                    obtain ⟨_, hv3751, rfl⟩ := hk 14 (by kernel_rfl) _ _ rfl rfl
                    refine ⟨[(95, .bool true), (96, .pointer (some ⟨b928, 6, none⟩))], (agree_cons (look_right rfl hv3750) (agree_cons (look_right rfl hv3751) (agree_nil _))), ?_⟩
                    refine WL.load_fld rfl rfl Ty.flat3 rfl (hR934.ext hE1) rfl ?_
                    refine WL.nil (fun a_ ha => ?_)
                    exact ⟨_, β, ha, (Ext.refl _), BExt.refl _ _, hbi.ext (Ext.refl _), rfl⟩
                  · intro σ β w1 hE1 hbi hk
                    have hz1 := hE1.size
                    obtain ⟨_, hv3850, rfl⟩ := hk 13 (by kernel_rfl) _ _ rfl rfl
                    refine ⟨[(95, .bool true)], (agree_cons (look_right rfl hv3850) (agree_nil _)), ?_⟩
                    refine WL.move rfl rfl rfl ?_
                    refine WL.nil (fun a_ ha => ?_)
                    exact ⟨_, β, ha, (Ext.refl _), BExt.refl _ _, hbi.ext (Ext.refl _), rfl⟩
                  · intro σ β w1 hE1 hbi hk
                    have hz1 := hE1.size
                    obtain ⟨_, hv3950, rfl⟩ := hk 13 (by kernel_rfl) _ _ rfl rfl
                    obtain ⟨_, hv3951, rfl⟩ := hk 15 (by kernel_rfl) _ _ rfl rfl
                    obtain ⟨_, hv3952, rfl⟩ := hk 16 (by kernel_rfl) _ _ rfl rfl
                    refine ⟨[(95, .bool true), (97, .int .i64 ((Nd.times A mn mx).most)), (98, .int .i64 mx)], (agree_cons (look_right rfl hv3950) (agree_cons (look_right rfl hv3951) (agree_cons (look_right rfl hv3952) (agree_nil _)))), ?_⟩
                    refine WL.eql (b := true) rfl rfl rfl rfl (by rw [(Nd.times_rep hfA (by omega) (by omega) (by omega) (by omega))]; exact beq_self_eq_true mx) ?_
                    refine WL.nil (fun a_ ha => ?_)
                    exact ⟨_, β, ha, (Ext.refl _), BExt.refl _ _, hbi.ext (Ext.refl _), rfl⟩
                  · intro σ β w1 hE1 hbi hk
                    have hz1 := hE1.size
                    obtain ⟨_, hv4050, rfl⟩ := hk 13 (by kernel_rfl) _ _ rfl rfl
                    obtain ⟨_, hv4051, rfl⟩ := hk 17 (by kernel_rfl) _ _ rfl rfl
                    refine ⟨[(95, .bool true), (99, .bool true)], (agree_cons (look_right rfl hv4050) (agree_cons (look_right rfl hv4051) (agree_nil _))), ?_⟩
                    refine WL.pick_t rfl rfl rfl rfl ?_
                    refine WL.nil (fun a_ ha => ?_)
                    exact ⟨_, β, ha, (Ext.refl _), BExt.refl _ _, hbi.ext (Ext.refl _), rfl⟩
                  · intro σ β w1 hE1 hbi hk
                    have hz1 := hE1.size
                    obtain ⟨_, hv4150, rfl⟩ := hk 18 (by kernel_rfl) _ _ rfl rfl
                    refine ⟨[(100, .bool true)], (agree_cons (look_right rfl hv4150) (agree_nil _)), ?_⟩
                    refine WL.move rfl rfl rfl ?_
                    refine WL.nil (fun a_ ha => ?_)
                    exact ⟨_, β, ha, (Ext.refl _), BExt.refl _ _, hbi.ext (Ext.refl _), rfl⟩
                  · intro σ β w1 hE1 hbi hk
                    have hz1 := hE1.size
                    obtain ⟨_, hv4250, rfl⟩ := hk 19 (by kernel_rfl) _ _ rfl rfl
                    refine ⟨[(101, .bool true)], (agree_cons (look_right rfl hv4250) (agree_nil _)), ?_⟩
                    refine WL.fieldAddr rfl rfl Ty.fld29_4 rfl ?_
                    refine WL.nil (fun a_ ha => ?_)
                    exact ⟨_, β, ha, (Ext.refl _), BExt.refl _ _, hbi.ext (Ext.refl _), rfl⟩
                  · intro σ β w1 hE1 hbi hk
                    have hz1 := hE1.size
                    obtain ⟨_, hv4350, rfl⟩ := hk 19 (by kernel_rfl) _ _ rfl rfl
                    obtain ⟨_, hv4351, rfl⟩ := hk 20 (by kernel_rfl) _ _ rfl rfl
                    refine ⟨[(101, .bool true), (102, .pointer (some ⟨b928, 7, none⟩))], (agree_cons (look_right rfl hv4350) (agree_cons (look_right rfl hv4351) (agree_nil _))), ?_⟩
                    refine WL.load_fld rfl rfl Ty.flat27 rfl (hR934.ext hE1) rfl ?_
                    refine WL.nil (fun a_ ha => ?_)
                    exact ⟨_, β, ha, (Ext.refl _), BExt.refl _ _, hbi.ext (Ext.refl _), rfl⟩
                  · intro σ β w1 hE1 hbi hk
                    have hz1 := hE1.size
                    obtain ⟨_, hv4450, rfl⟩ := hk 19 (by kernel_rfl) _ _ rfl rfl
                    obtain ⟨_, hv4451, rfl⟩ := hk 21 (by kernel_rfl) _ _ rfl rfl
                    refine ⟨[(101, .bool true), (103, .slice (some ⟨eb1147, eo1147, none⟩) ((Nd.times A mn mx).subs.length) cap925)], (agree_cons (look_right rfl hv4450) (agree_cons (look_right rfl hv4451) (agree_nil _))), ?_⟩
                    refine WL.len rfl rfl Try.underlying27 rfl ?_
                    refine WL.nil (fun a_ ha => ?_)
                    exact ⟨_, β, ha, (Ext.refl _), BExt.refl _ _, hbi.ext (Ext.refl _), rfl⟩
                  · intro σ β w1 hE1 hbi hk
                    have hz1 := hE1.size
                    obtain ⟨_, hv4550, rfl⟩ := hk 19 (by kernel_rfl) _ _ rfl rfl
                    obtain ⟨_, hv4551, rfl⟩ := hk 22 (by kernel_rfl) _ _ rfl rfl
                    refine ⟨[(101, .bool true), (104, .int .i64 ((Nd.times A mn mx).subs.length))], (agree_cons (look_right rfl hv4550) (agree_cons (look_right rfl hv4551) (agree_nil _))), ?_⟩
                    refine WL.eql (b := true) rfl rfl rfl rfl (by rw [(Nd.times_rep hfA (by omega) (by omega) (by omega) (by omega))]; rfl) ?_
                    refine WL.nil (fun a_ ha => ?_)
                    exact ⟨_, β, ha, (Ext.refl _), BExt.refl _ _, hbi.ext (Ext.refl _), rfl⟩
                  · intro σ β w1 hE1 hbi hk
                    have hz1 := hE1.size
                    obtain ⟨_, hv4650, rfl⟩ := hk 19 (by kernel_rfl) _ _ rfl rfl
                    obtain ⟨_, hv4651, rfl⟩ := hk 23 (by kernel_rfl) _ _ rfl rfl
                    refine ⟨[(101, .bool true), (105, .bool true)], (agree_cons (look_right rfl hv4650) (agree_cons (look_right rfl hv4651) (agree_nil _))), ?_⟩
                    refine WL.pick_t rfl rfl rfl rfl ?_
                    refine WL.nil (fun a_ ha => ?_)
                    exact ⟨_, β, ha, (Ext.refl _), BExt.refl _ _, hbi.ext (Ext.refl _), rfl⟩
                  · intro σ β w1 hE1 hbi hk
                    have hz1 := hE1.size
                    obtain ⟨_, hv4750, rfl⟩ := hk 24 (by kernel_rfl) _ _ rfl rfl
                    refine ⟨[(106, .bool true)], (agree_cons (look_right rfl hv4750) (agree_nil _)), ?_⟩
                    refine WL.move rfl rfl rfl ?_
                    refine WL.nil (fun a_ ha => ?_)
                    exact ⟨_, β, ha, (Ext.refl _), BExt.refl _ _, hbi.ext (Ext.refl _), rfl⟩
                  · intro σ β w1 hE1 hbi hk
                    have hz1 := hE1.size
                    obtain ⟨_, hv4850, rfl⟩ := hk 25 (by kernel_rfl) _ _ rfl rfl
                    refine ⟨[(107, .bool true)], (agree_cons (look_right rfl hv4850) (agree_nil _)), ?_⟩
                    refine WL.fieldAddr rfl rfl Ty.fld29_4 rfl ?_
                    refine WL.nil (fun a_ ha => ?_)
                    exact ⟨_, β, ha, (Ext.refl _), BExt.refl _ _, hbi.ext (Ext.refl _), rfl⟩
                  · intro σ β w1 hE1 hbi hk
                    have hz1 := hE1.size
                    obtain ⟨_, hv4950, rfl⟩ := hk 25 (by kernel_rfl) _ _ rfl rfl
                    obtain ⟨_, hv4951, rfl⟩ := hk 26 (by kernel_rfl) _ _ rfl rfl
                    refine ⟨[(107, .bool true), (108, .pointer (some ⟨b928, 7, none⟩))], (agree_cons (look_right rfl hv4950) (agree_cons (look_right rfl hv4951) (agree_nil _))), ?_⟩
                    refine WL.load_fld rfl rfl Ty.flat27 rfl (hR934.ext hE1) rfl ?_
                    refine WL.nil (fun a_ ha => ?_)
                    exact ⟨_, β, ha, (Ext.refl _), BExt.refl _ _, hbi.ext (Ext.refl _), rfl⟩
                  · intro σ β w1 hE1 hbi hk
                    have hz1 := hE1.size
                    obtain ⟨_, hv5050, rfl⟩ := hk 25 (by kernel_rfl) _ _ rfl rfl
                    obtain ⟨_, hv5051, rfl⟩ := hk 27 (by kernel_rfl) _ _ rfl rfl
                    refine ⟨[(107, .bool true), (109, .slice (some ⟨eb1147, eo1147, none⟩) ((Nd.times A mn mx).subs.length) cap925)], (agree_cons (look_right rfl hv5050) (agree_cons (look_right rfl hv5051) (agree_nil _))), ?_⟩
                    refine WL.indexAddr (i := 0) rfl rfl Ty.slice27 rfl rfl rfl (by rw [(Nd.times_rep hfA (by omega) (by omega) (by omega) (by omega))]; exact Nat.zero_lt_one) ?_
                    refine WL.nil (fun a_ ha => ?_)
                    exact ⟨_, β, ha, (Ext.refl _), BExt.refl _ _, hbi.ext (Ext.refl _), rfl⟩
                  · intro σ β w1 hE1 hbi hk
                    have hz1 := hE1.size
                    obtain ⟨_, hv5150, rfl⟩ := hk 25 (by kernel_rfl) _ _ rfl rfl
                    obtain ⟨_, hv5151, rfl⟩ := hk 28 (by kernel_rfl) _ _ rfl rfl
                    refine ⟨[(107, .bool true), (110, .pointer (some ⟨eb1147, eo1147 + 0 * 8, none⟩))], (agree_cons (look_right rfl hv5150) (agree_cons (look_right rfl hv5151) (agree_nil _))), ?_⟩
                    refine WL.load_agg (l := tcells t1147 (.slice a1147 t1147.subs.length cap1147)) rfl rfl Ty.agg29 rfl (her1147.ext hE1) ?_
                    refine WL.nil (fun a_ ha => ?_)
                    exact ⟨_, β, ha, (Ext.refl _), BExt.refl _ _, hbi.ext (Ext.refl _), rfl⟩
                  · intro σ β w1 hE1 hbi hk
                    have hz1 := hE1.size
                    obtain ⟨_, hv5250, rfl⟩ := hk 25 (by kernel_rfl) _ _ rfl rfl
                    refine ⟨[(107, .bool true)], (agree_cons (look_right rfl hv5250) (agree_nil _)), ?_⟩
                    refine WL.load_box rfl rfl rfl (h1142.ext hE1) Ty.agg29 ?_
                    refine WL.nil (fun a_ ha => ?_)
                    exact ⟨_, β, ha, (Ext.refl _), BExt.refl _ _, hbi.ext (Ext.refl _), rfl⟩
                  · intro σ β w1 hE1 hbi hk
                    have hz1 := hE1.size
                    obtain ⟨_, hv5350, rfl⟩ := hk 25 (by kernel_rfl) _ _ rfl rfl
                    obtain ⟨_, hv5351, rfl⟩ := hk 29 (by kernel_rfl) _ _ rfl rfl
                    obtain ⟨_, hv5352, rfl⟩ := hk 30 (by kernel_rfl) _ _ rfl rfl
                    refine ⟨[(107, .bool true), (111, .agg #[.int .u8 t1147.kind, .int .u64 t1147.set.a, .int .u64 t1147.set.b, .int .u64 t1147.set.c, .int .u64 t1147.set.d, .int .i64 t1147.least, .int .i64 t1147.most, .slice a1147 t1147.subs.length cap1147]), (112, .agg #[.int .u8 A.kind, .int .u64 A.set.a, .int .u64 A.set.b, .int .u64 A.set.c, .int .u64 A.set.d, .int .i64 A.least, .int .i64 A.most, .slice a3 A.subs.length cap3])], (agree_cons (look_right rfl hv5350) (agree_cons (look_right rfl hv5351) (agree_cons (look_right rfl hv5352) (agree_nil _)))), ?_⟩
                    refine WL.call rfl rfl rfl Ty.ent14 (Same_ok _ _ _ _ _ t1147 A (hn1147.ext hE1) (h1148.ext hE1)) ?_
                    rintro _ w5354 ⟨he, hE5353⟩
                    have hq : (Nd.light t1147 && Nd.light A && Nd.same t1147 A) = true := (by rw [h0t1147]; exact Nd.Same_self hfA.light)
                    rw [hq] at he
                    subst he
                    clear hq
                    have hzhE5353 := hE5353.size
                    refine ⟨_, rfl, ?_⟩
                    refine WL.nil (fun a_ ha => ?_)
                    exact ⟨_, β, ha, hE5353, BExt.refl _ _, hbi.ext hE5353, rfl⟩
                  · intro σ β w1 hE1 hbi hk
                    have hz1 := hE1.size
                    obtain ⟨_, hv5450, rfl⟩ := hk 25 (by kernel_rfl) _ _ rfl rfl
                    obtain ⟨_, hv5451, rfl⟩ := hk 31 (by kernel_rfl) _ _ rfl rfl
                    refine ⟨[(107, .bool true), (113, .bool true)], (agree_cons (look_right rfl hv5450) (agree_cons (look_right rfl hv5451) (agree_nil _))), ?_⟩
                    refine WL.pick_t rfl rfl rfl rfl ?_
                    refine WL.nil (fun a_ ha => ?_)
                    exact ⟨_, β, ha, (Ext.refl _), BExt.refl _ _, hbi.ext (Ext.refl _), rfl⟩
                  · intro σ β w1 hE1 hbi hk
                    have hz1 := hE1.size
                    obtain ⟨_, hv5550, rfl⟩ := hk 32 (by kernel_rfl) _ _ rfl rfl
                    refine ⟨[(114, .bool true)], (agree_cons (look_right rfl hv5550) (agree_nil _)), ?_⟩
                    refine WL.move rfl rfl rfl ?_
                    refine WL.nil (fun a_ ha => ?_)
                    exact ⟨_, β, ha, (Ext.refl _), BExt.refl _ _, hbi.ext (Ext.refl _), rfl⟩
                  · intro σ β w1 hE1 hbi hk
                    have hz1 := hE1.size
                    obtain ⟨_, hv5650, rfl⟩ := hk 33 (by kernel_rfl) _ _ rfl rfl
                    refine ⟨[(115, .bool true)], (agree_cons (look_right rfl hv5650) (agree_nil _)), ?_⟩
                    refine WL.load_box rfl rfl rfl (hR934.ext hE1) Ty.agg29 ?_
                    refine WL.nil (fun a_ ha => ?_)
                    exact ⟨_, β, ha, (Ext.refl _), BExt.refl _ _, hbi.ext (Ext.refl _), rfl⟩
                  · intro σ β w1 hE1 hbi hk
                    have hz1 := hE1.size
                    obtain ⟨_, hv5750, rfl⟩ := hk 33 (by kernel_rfl) _ _ rfl rfl
                    obtain ⟨_, hv5751, rfl⟩ := hk 34 (by kernel_rfl) _ _ rfl rfl
                    refine ⟨[(115, .bool true), (116, .agg #[.int .u8 (Nd.times A mn mx).kind, .int .u64 (Nd.times A mn mx).set.a, .int .u64 (Nd.times A mn mx).set.b, .int .u64 (Nd.times A mn mx).set.c, .int .u64 (Nd.times A mn mx).set.d, .int .i64 (Nd.times A mn mx).least, .int .i64 (Nd.times A mn mx).most, .slice (some ⟨eb1147, eo1147, none⟩) (Nd.times A mn mx).subs.length cap925])], (agree_cons (look_right rfl hv5750) (agree_cons (look_right rfl hv5751) (agree_nil _))), ?_⟩
                    refine WL.call rfl rfl rfl Ty.ent15 (Positions_ok _ _ _ _ (h1149.ext hE1)) ?_
                    rintro _ w5753 ⟨rfl, hE5752⟩
                    have hzhE5752 := hE5752.size
                    refine ⟨_, rfl, ?_⟩
                    refine WL.nil (fun a_ ha => ?_)
                    exact ⟨_, β, ha, hE5752, BExt.refl _ _, hbi.ext hE5752, rfl⟩
                  · intro σ β w1 hE1 hbi hk
                    have hz1 := hE1.size
                    obtain ⟨_, hv5850, rfl⟩ := hk 33 (by kernel_rfl) _ _ rfl rfl
                    refine ⟨[(115, .bool true)], (agree_cons (look_right rfl hv5850) (agree_nil _)), ?_⟩
                    refine WL.move rfl rfl rfl ?_
                    refine WL.nil (fun a_ ha => ?_)
                    exact ⟨_, β, ha, (Ext.refl _), BExt.refl _ _, hbi.ext (Ext.refl _), rfl⟩
                  · intro σ β w1 hE1 hbi hk
                    have hz1 := hE1.size
                    obtain ⟨_, hv5950, rfl⟩ := hk 33 (by kernel_rfl) _ _ rfl rfl
                    refine ⟨[(115, .bool true)], (agree_cons (look_right rfl hv5950) (agree_nil _)), ?_⟩
                    refine WL.load_box rfl rfl rfl (h1142.ext hE1) Ty.agg29 ?_
                    refine WL.nil (fun a_ ha => ?_)
                    exact ⟨_, β, ha, (Ext.refl _), BExt.refl _ _, hbi.ext (Ext.refl _), rfl⟩
                  · intro σ β w1 hE1 hbi hk
                    have hz1 := hE1.size
                    obtain ⟨_, hv6050, rfl⟩ := hk 33 (by kernel_rfl) _ _ rfl rfl
                    obtain ⟨_, hv6051, rfl⟩ := hk 37 (by kernel_rfl) _ _ rfl rfl
                    refine ⟨[(115, .bool true), (119, .agg #[.int .u8 A.kind, .int .u64 A.set.a, .int .u64 A.set.b, .int .u64 A.set.c, .int .u64 A.set.d, .int .i64 A.least, .int .i64 A.most, .slice a3 A.subs.length cap3])], (agree_cons (look_right rfl hv6050) (agree_cons (look_right rfl hv6051) (agree_nil _))), ?_⟩
                    refine WL.call rfl rfl rfl Ty.ent15 (Positions_ok _ _ _ _ (h1148.ext hE1)) ?_
                    rintro _ w6053 ⟨rfl, hE6052⟩
                    have hzhE6052 := hE6052.size
                    refine ⟨_, rfl, ?_⟩
                    refine WL.nil (fun a_ ha => ?_)
                    exact ⟨_, β, ha, hE6052, BExt.refl _ _, hbi.ext hE6052, rfl⟩
                  · intro σ β w1 hE1 hbi hk
                    have hz1 := hE1.size
                    obtain ⟨_, hv6150, rfl⟩ := hk 33 (by kernel_rfl) _ _ rfl rfl
                    obtain ⟨_, hv6151, rfl⟩ := hk 36 (by kernel_rfl) _ _ rfl rfl
                    obtain ⟨_, hv6152, rfl⟩ := hk 38 (by kernel_rfl) _ _ rfl rfl
                    refine ⟨[(115, .bool true), (118, .int .i64 (Nd.max3 mn mx 1)), (120, .int .i64 (Nd.posns A))], (agree_cons (look_right rfl hv6150) (agree_cons (look_right rfl hv6151) (agree_cons (look_right rfl hv6152) (agree_nil _)))), ?_⟩
                    refine WL.mul (v := Nd.max3 mn mx 1 * (Nd.posns A)) rfl rfl rfl rfl (IntWalk.i64_in _ (by have h1 := Nd.tms_eq (mn := mn) (mx := mx) (by omega) (by omega); have := Nd.mul_le16 h1.2.1 h1.2.2 hpA.1 hpA.2; omega)) ?_
                    refine WL.nil (fun a_ ha => ?_)
                    exact ⟨_, β, ha, (Ext.refl _), BExt.refl _ _, hbi.ext (Ext.refl _), rfl⟩
                  · intro σ β w1 hE1 hbi hk
                    have hz1 := hE1.size
                    obtain ⟨_, hv6250, rfl⟩ := hk 33 (by kernel_rfl) _ _ rfl rfl
                    obtain ⟨_, hv6251, rfl⟩ := hk 35 (by kernel_rfl) _ _ rfl rfl
                    obtain ⟨_, hv6252, rfl⟩ := hk 39 (by kernel_rfl) _ _ rfl rfl
                    refine ⟨[(115, .bool true), (117, .int .i64 (Nd.posns (Nd.times A mn mx))), (121, .int .i64 (Nd.max3 mn mx 1 * (Nd.posns A)))], (agree_cons (look_right rfl hv6250) (agree_cons (look_right rfl hv6251) (agree_cons (look_right rfl hv6252) (agree_nil _)))), ?_⟩
                    refine WL.eql (b := true) rfl rfl rfl rfl (by rw [(Nd.times_rep hfA (by omega) (by omega) (by omega) (by omega)), Nd.rep_posns hmA (by omega) (by omega) (by omega) (by omega)]; exact beq_self_eq_true _) ?_
                    refine WL.nil (fun a_ ha => ?_)
                    exact ⟨_, β, ha, (Ext.refl _), BExt.refl _ _, hbi.ext (Ext.refl _), rfl⟩
                  · intro σ β w1 hE1 hbi hk
                    have hz1 := hE1.size
                    obtain ⟨_, hv6350, rfl⟩ := hk 33 (by kernel_rfl) _ _ rfl rfl
                    obtain ⟨_, hv6351, rfl⟩ := hk 40 (by kernel_rfl) _ _ rfl rfl
                    refine ⟨[(115, .bool true), (122, .bool true)], (agree_cons (look_right rfl hv6350) (agree_cons (look_right rfl hv6351) (agree_nil _))), ?_⟩
                    refine WL.pick_t rfl rfl rfl rfl ?_
                    refine WL.nil (fun a_ ha => ?_)
                    exact ⟨_, β, ha, (Ext.refl _), BExt.refl _ _, hbi.ext (Ext.refl _), rfl⟩
                  · intro σ β w1 hE1 hbi hk
                    have hz1 := hE1.size
                    obtain ⟨_, hv6450, rfl⟩ := hk 41 (by kernel_rfl) _ _ rfl rfl
                    refine ⟨[(123, .bool true)], (agree_cons (look_right rfl hv6450) (agree_nil _)), ?_⟩
                    refine WL.move rfl rfl rfl ?_
                    refine WL.nil (fun a_ ha => ?_)
                    exact ⟨_, β, ha, (Ext.refl _), BExt.refl _ _, hbi.ext (Ext.refl _), rfl⟩
                  · intro σ β w1 hE1 hbi hk
                    have hz1 := hE1.size
                    obtain ⟨_, hv6550, rfl⟩ := hk 42 (by kernel_rfl) _ _ rfl rfl
                    refine ⟨[(124, .bool true)], (agree_cons (look_right rfl hv6550) (agree_nil _)), ?_⟩
                    refine WL.load_box rfl rfl rfl (hR934.ext hE1) Ty.agg29 ?_
                    refine WL.nil (fun a_ ha => ?_)
                    exact ⟨_, β, ha, (Ext.refl _), BExt.refl _ _, hbi.ext (Ext.refl _), rfl⟩
                  · intro σ β w1 hE1 hbi hk
                    have hz1 := hE1.size
                    obtain ⟨_, hv6650, rfl⟩ := hk 42 (by kernel_rfl) _ _ rfl rfl
                    obtain ⟨_, hv6651, rfl⟩ := hk 43 (by kernel_rfl) _ _ rfl rfl
                    refine ⟨[(124, .bool true), (125, .agg #[.int .u8 (Nd.times A mn mx).kind, .int .u64 (Nd.times A mn mx).set.a, .int .u64 (Nd.times A mn mx).set.b, .int .u64 (Nd.times A mn mx).set.c, .int .u64 (Nd.times A mn mx).set.d, .int .i64 (Nd.times A mn mx).least, .int .i64 (Nd.times A mn mx).most, .slice (some ⟨eb1147, eo1147, none⟩) (Nd.times A mn mx).subs.length cap925])], (agree_cons (look_right rfl hv6650) (agree_cons (look_right rfl hv6651) (agree_nil _))), ?_⟩
                    refine WL.call rfl rfl rfl Ty.ent16 (size_ok _ _ _ _ (h1149.ext hE1)) ?_
                    rintro _ w6653 ⟨rfl, hE6652⟩
                    have hzhE6652 := hE6652.size
                    refine ⟨_, rfl, ?_⟩
                    refine WL.nil (fun a_ ha => ?_)
                    exact ⟨_, β, ha, hE6652, BExt.refl _ _, hbi.ext hE6652, rfl⟩
                  · intro σ β w1 hE1 hbi hk
                    have hz1 := hE1.size
                    obtain ⟨_, hv6750, rfl⟩ := hk 42 (by kernel_rfl) _ _ rfl rfl
                    refine ⟨[(124, .bool true)], (agree_cons (look_right rfl hv6750) (agree_nil _)), ?_⟩
                    refine WL.load_box rfl rfl rfl (h1142.ext hE1) Ty.agg29 ?_
                    refine WL.nil (fun a_ ha => ?_)
                    exact ⟨_, β, ha, (Ext.refl _), BExt.refl _ _, hbi.ext (Ext.refl _), rfl⟩
                  · intro σ β w1 hE1 hbi hk
                    have hz1 := hE1.size
                    obtain ⟨_, hv6850, rfl⟩ := hk 42 (by kernel_rfl) _ _ rfl rfl
                    obtain ⟨_, hv6851, rfl⟩ := hk 45 (by kernel_rfl) _ _ rfl rfl
                    refine ⟨[(124, .bool true), (127, .agg #[.int .u8 A.kind, .int .u64 A.set.a, .int .u64 A.set.b, .int .u64 A.set.c, .int .u64 A.set.d, .int .i64 A.least, .int .i64 A.most, .slice a3 A.subs.length cap3])], (agree_cons (look_right rfl hv6850) (agree_cons (look_right rfl hv6851) (agree_nil _))), ?_⟩
                    refine WL.call rfl rfl rfl Ty.ent16 (size_ok _ _ _ _ (h1148.ext hE1)) ?_
                    rintro _ w6853 ⟨rfl, hE6852⟩
                    have hzhE6852 := hE6852.size
                    refine ⟨_, rfl, ?_⟩
                    refine WL.nil (fun a_ ha => ?_)
                    exact ⟨_, β, ha, hE6852, BExt.refl _ _, hbi.ext hE6852, rfl⟩
                  · intro σ β w1 hE1 hbi hk
                    have hz1 := hE1.size
                    obtain ⟨_, hv6950, rfl⟩ := hk 42 (by kernel_rfl) _ _ rfl rfl
                    obtain ⟨_, hv6951, rfl⟩ := hk 46 (by kernel_rfl) _ _ rfl rfl
                    refine ⟨[(124, .bool true), (128, .int .i64 (Nd.sizes A))], (agree_cons (look_right rfl hv6950) (agree_cons (look_right rfl hv6951) (agree_nil _))), ?_⟩
                    refine WL.add (v := 1 + (Nd.sizes A)) rfl rfl rfl rfl (IntWalk.i64_in _ (by omega)) ?_
                    refine WL.nil (fun a_ ha => ?_)
                    exact ⟨_, β, ha, (Ext.refl _), BExt.refl _ _, hbi.ext (Ext.refl _), rfl⟩
                  · intro σ β w1 hE1 hbi hk
                    have hz1 := hE1.size
                    obtain ⟨_, hv7050, rfl⟩ := hk 42 (by kernel_rfl) _ _ rfl rfl
                    obtain ⟨_, hv7051, rfl⟩ := hk 44 (by kernel_rfl) _ _ rfl rfl
                    obtain ⟨_, hv7052, rfl⟩ := hk 47 (by kernel_rfl) _ _ rfl rfl
                    refine ⟨[(124, .bool true), (126, .int .i64 (Nd.sizes (Nd.times A mn mx))), (129, .int .i64 (1 + (Nd.sizes A)))], (agree_cons (look_right rfl hv7050) (agree_cons (look_right rfl hv7051) (agree_cons (look_right rfl hv7052) (agree_nil _)))), ?_⟩
                    refine WL.eql (b := true) rfl rfl rfl rfl (by rw [(Nd.times_rep hfA (by omega) (by omega) (by omega) (by omega)), Nd.rep_sizes hmA (by omega) (by omega) (by omega) (by omega)]; exact beq_self_eq_true _) ?_
                    refine WL.nil (fun a_ ha => ?_)
                    exact ⟨_, β, ha, (Ext.refl _), BExt.refl _ _, hbi.ext (Ext.refl _), rfl⟩
                  · intro σ β w1 hE1 hbi hk
                    have hz1 := hE1.size
                    obtain ⟨_, hv7150, rfl⟩ := hk 42 (by kernel_rfl) _ _ rfl rfl
                    obtain ⟨_, hv7151, rfl⟩ := hk 48 (by kernel_rfl) _ _ rfl rfl
                    refine ⟨[(124, .bool true), (130, .bool true)], (agree_cons (look_right rfl hv7150) (agree_cons (look_right rfl hv7151) (agree_nil _))), ?_⟩
                    refine WL.pick_t rfl rfl rfl rfl ?_
                    refine WL.nil (fun a_ ha => ?_)
                    exact ⟨_, β, ha, (Ext.refl _), BExt.refl _ _, hbi.ext (Ext.refl _), rfl⟩
                  intro σ β w2049 hE2049 hbi2049 hk
                  have hz2049 := hE2049.size
                  have hbi := hbi2049
                  obtain ⟨_, hv2050, rfl⟩ := hk 49 (by decide) _ _ rfl rfl
                  refine WL.know [(131, .bool true)] (agree_cons (look_right rfl hv2050) (agree_nil _)) ?_
                  refine WL.assign rfl rfl rfl ?_
                  refine WL.done' ?_ (fun _ _ h => h)
                  refine WC.ret (fun a_ ha => ?_)
                  exact bodyPost_tmp rfl ha rfl ⟨rfl, ((hB935.onto ((((((hB13.onto ((hE1.trans hE4).trans hE10) (by omega)).trans hE915).trans hE918).trans hE923).trans hE926).trans hE932) (by omega)).trans hE2049)⟩
                | true =>
                  refine WL.eql rfl rfl rfl rfl hc1145 ?_
                  have hp1145 := beq_iff_eq.1 hc1145
                  refine WL.move rfl rfl rfl ?_
                  refine WL.move rfl rfl rfl ?_
                  cases hc1196 : ((mx : Int) == 1) with
                  | false =>
                    refine WL.eql rfl rfl rfl rfl hc1196 ?_
                    have hp1196 := beq_eq_false_iff_ne.1 hc1196
                    refine WL.pick_t rfl rfl rfl rfl ?_
                    refine WL.done' ?_ (fun _ _ h => h)
                    refine WC.cond_f rfl ?_
                    refine WC.skip'' ?_ (fun _ _ h => h)
                    refine WC.seqk ?_
                    refine WC.region ?_
                    refine WL.move rfl rfl rfl ?_
                    refine WL.move rfl rfl rfl ?_
                    refine WL.max3 (v := Nd.max3 mn mx 1) rfl rfl rfl rfl rfl rfl ?_
                    refine WL.assign rfl rfl rfl ?_
                    refine WL.done' ?_ (fun _ _ h => h)
                    refine WC.seqk ?_
                    have h1197 := ((hts925.ext hE932).but hB935 (by intro h1; first | omega | ((try dsimp only at h1); (repeat' first | (guard_hyp h1 : _ ∨ _; refine Or.elim h1 (fun h1 => ?_) (fun h1 => ?_)) | (guard_hyp h1 : _ ∧ _; have hx := h1.2; replace h1 := h1.1)) <;> first | contradiction | omega)))
                    obtain ⟨t1198, ht1198⟩ : ∃ t, (Nd.times A mn mx).subs[0]? = some t := ⟨_, List.getElem?_eq_getElem (by rw [(Nd.times_rep hfA (by omega) (by omega) (by omega) (by omega))]; exact Nat.zero_lt_one)⟩
                    obtain ⟨eb1198, eo1198, el1198, hea1198, hD1198, her1198, hn1198⟩ := h1197.at ht1198
                    obtain ⟨sl1198, rfl, hts1198⟩ := hn1198.opn
                    obtain ⟨a1198, cap1198, rfl, hlen1198, -⟩ := hts1198.get
                    subst hea1198
                    have h0t1198 : t1198 = A := by rw [(Nd.times_rep hfA (by omega) (by omega) (by omega) (by omega))] at ht1198; exact (Option.some.inj ht1198).symm
                    have h1199 := ((((h921.ext hE923).ext hE926).ext hE932).but hB935 (by intro h1; first | omega | ((try dsimp only at h1); (repeat' first | (guard_hyp h1 : _ ∨ _; refine Or.elim h1 (fun h1 => ?_) (fun h1 => ?_)) | (guard_hyp h1 : _ ∧ _; have hx := h1.2; replace h1 := h1.1)) <;> first | contradiction | omega)))
                    have h1200 := ((hn925.ext hE932).but hB935 (by intro h1; first | omega | ((try dsimp only at h1); (repeat' first | (guard_hyp h1 : _ ∨ _; refine Or.elim h1 (fun h1 => ?_) (fun h1 => ?_)) | (guard_hyp h1 : _ ∧ _; have hx := h1.2; replace h1 := h1.1)) <;> first | contradiction | omega)))
                    refine WC.weaken (r' := [(1, .int .i64 mn), (2, .int .i64 mx), (6, .bool false), (12, .bool false), (7, .pointer (some ⟨b6, 0, none⟩)), (25, .bool false), (8, .pointer (some ⟨b928, 0, none⟩)), (50, .bool false), (66, .bool false), (75, .bool false), (10, .int .i64 (Nd.max3 mn mx 1))]) (subReg_cons rfl (subReg_cons rfl (subReg_cons rfl (subReg_cons rfl (subReg_cons rfl (subReg_cons rfl (subReg_cons rfl (subReg_cons rfl (subReg_cons rfl (subReg_cons rfl (subReg_cons rfl (subReg_nil _)))))))))))) ?_
                    refine WC.draw 50 [82, 83, 84, 85, 86, 87, 88, 89, 90, 91, 92, 93, 94, 95, 96, 97, 98, 99, 100, 101, 102, 103, 104, 105, 106, 107, 108, 109, 110, 111, 112, 113, 114, 115, 116, 117, 118, 119, 120, 121, 122, 123, 124, 125, 126, 127, 128, 129, 130, 131] [pc (.agg #[.int .u8 (Nd.times A mn mx).kind, .int .u64 (Nd.times A mn mx).set.a, .int .u64 (Nd.times A mn mx).set.b, .int .u64 (Nd.times A mn mx).set.c, .int .u64 (Nd.times A mn mx).set.d, .int .i64 (Nd.times A mn mx).least, .int .i64 (Nd.times A mn mx).most, .slice (some ⟨eb1198, eo1198, none⟩) (Nd.times A mn mx).subs.length cap925]), pc (.bool true), pc (.bool true), pc (.pointer (some ⟨b928, 0, none⟩)), pc (.int .u8 ((Nd.times A mn mx).kind)), pc (.bool true), pc (.bool true), pc (.bool true), pc (.pointer (some ⟨b928, 5, none⟩)), pc (.int .i64 ((Nd.times A mn mx).least)), pc (.int .i64 mn), pc (.bool true), pc (.bool true), pc (.bool true), pc (.pointer (some ⟨b928, 6, none⟩)), pc (.int .i64 ((Nd.times A mn mx).most)), pc (.int .i64 mx), pc (.bool true), pc (.bool true), pc (.bool true), pc (.pointer (some ⟨b928, 7, none⟩)), pc (.slice (some ⟨eb1198, eo1198, none⟩) ((Nd.times A mn mx).subs.length) cap925), pc (.int .i64 ((Nd.times A mn mx).subs.length)), pc (.bool true), pc (.bool true), pc (.bool true), pc (.pointer (some ⟨b928, 7, none⟩)), pc (.slice (some ⟨eb1198, eo1198, none⟩) ((Nd.times A mn mx).subs.length) cap925), pc (.pointer (some ⟨eb1198, eo1198 + 0 * 8, none⟩)), pc (.agg #[.int .u8 t1198.kind, .int .u64 t1198.set.a, .int .u64 t1198.set.b, .int .u64 t1198.set.c, .int .u64 t1198.set.d, .int .i64 t1198.least, .int .i64 t1198.most, .slice a1198 t1198.subs.length cap1198]), pc (.agg #[.int .u8 A.kind, .int .u64 A.set.a, .int .u64 A.set.b, .int .u64 A.set.c, .int .u64 A.set.d, .int .i64 A.least, .int .i64 A.most, .slice a3 A.subs.length cap3]), pc (.bool true), pc (.bool true), pc (.bool true), pc (.agg #[.int .u8 (Nd.times A mn mx).kind, .int .u64 (Nd.times A mn mx).set.a, .int .u64 (Nd.times A mn mx).set.b, .int .u64 (Nd.times A mn mx).set.c, .int .u64 (Nd.times A mn mx).set.d, .int .i64 (Nd.times A mn mx).least, .int .i64 (Nd.times A mn mx).most, .slice (some ⟨eb1198, eo1198, none⟩) (Nd.times A mn mx).subs.length cap925]), pc (.int .i64 (Nd.posns (Nd.times A mn mx))), pc (.int .i64 (Nd.max3 mn mx 1)), pc (.agg #[.int .u8 A.kind, .int .u64 A.set.a, .int .u64 A.set.b, .int .u64 A.set.c, .int .u64 A.set.d, .int .i64 A.least, .int .i64 A.most, .slice a3 A.subs.length cap3]), pc (.int .i64 (Nd.posns A)), pc (.int .i64 (Nd.max3 mn mx 1 * (Nd.posns A))), pc (.bool true), pc (.bool true), pc (.bool true), pc (.agg #[.int .u8 (Nd.times A mn mx).kind, .int .u64 (Nd.times A mn mx).set.a, .int .u64 (Nd.times A mn mx).set.b, .int .u64 (Nd.times A mn mx).set.c, .int .u64 (Nd.times A mn mx).set.d, .int .i64 (Nd.times A mn mx).least, .int .i64 (Nd.times A mn mx).most, .slice (some ⟨eb1198, eo1198, none⟩) (Nd.times A mn mx).subs.length cap925]), pc (.int .i64 (Nd.sizes (Nd.times A mn mx))), pc (.agg #[.int .u8 A.kind, .int .u64 A.set.a, .int .u64 A.set.b, .int .u64 A.set.c, .int .u64 A.set.d, .int .i64 A.least, .int .i64 A.most, .slice a3 A.subs.length cap3]), pc (.int .i64 (Nd.sizes A)), pc (.int .i64 (1 + (Nd.sizes A))), pc (.bool true), pc (.bool true)] (by kernel_rfl) (by kernel_rfl) ⟨KW_pc _, KW_pc _, KW_pc _, KW_pc _, KW_pc _, KW_pc _, KW_pc _, KW_pc _, KW_pc _, KW_pc _, KW_pc _, KW_pc _, KW_pc _, KW_pc _, KW_pc _, KW_pc _, KW_pc _, KW_pc _, KW_pc _, KW_pc _, KW_pc _, KW_pc _, KW_pc _, KW_pc _, KW_pc _, KW_pc _, KW_pc _, KW_pc _, KW_pc _, KW_pc _, KW_pc _, KW_pc _, KW_pc _, KW_pc _, KW_pc _, KW_pc _, KW_pc _, KW_pc _, KW_pc _, KW_pc _, KW_pc _, KW_pc _, KW_pc _, KW_pc _, KW_pc _, KW_pc _, KW_pc _, KW_pc _, KW_pc _, KW_pc _, trivial⟩ rfl rfl rfl (StepsOn.cons ?_ (StepsOn.cons ?_ (StepsOn.cons ?_ (StepsOn.cons ?_ (StepsOn.cons ?_ (StepsOn.cons ?_ (StepsOn.cons ?_ (StepsOn.cons ?_ (StepsOn.cons ?_ (StepsOn.cons ?_ (StepsOn.cons ?_ (StepsOn.cons ?_ (StepsOn.cons ?_ (StepsOn.cons ?_ (StepsOn.cons ?_ (StepsOn.cons ?_ (StepsOn.cons ?_ (StepsOn.cons ?_ (StepsOn.cons ?_ (StepsOn.cons ?_ (StepsOn.cons ?_ (StepsOn.cons ?_ (StepsOn.cons ?_ (StepsOn.cons ?_ (StepsOn.cons ?_ (StepsOn.cons ?_ (StepsOn.cons ?_ (StepsOn.cons ?_ (StepsOn.cons ?_ (StepsOn.cons ?_ (StepsOn.cons ?_ (StepsOn.cons ?_ (StepsOn.cons ?_ (StepsOn.cons ?_ (StepsOn.cons ?_ (StepsOn.cons ?_ (StepsOn.cons ?_ (StepsOn.cons ?_ (StepsOn.cons ?_ (StepsOn.cons ?_ (StepsOn.cons ?_ (StepsOn.cons ?_ (StepsOn.cons ?_ (StepsOn.cons ?_ (StepsOn.cons ?_ (StepsOn.cons ?_ (StepsOn.cons ?_ (StepsOn.cons ?_ (StepsOn.cons ?_ (StepsOn.cons ?_ (StepsOn.nil _))))))))))))))))))))))))))))))))))))))))))))))))))) ?_
                    · intro σ β w1 hE1 hbi hk
                      have hz1 := hE1.size
                      refine ⟨[], (agree_nil _), ?_⟩
                      refine WL.load_box rfl rfl rfl (hR934.ext hE1) Ty.agg29 ?_
                      refine WL.nil (fun a_ ha => ?_)
                      exact ⟨_, β, ha, (Ext.refl _), BExt.refl _ _, hbi.ext (Ext.refl _), rfl⟩
                    · intro σ β w1 hE1 hbi hk
                      have hz1 := hE1.size
                      obtain ⟨_, hv2401, rfl⟩ := hk 0 (by kernel_rfl) _ _ rfl rfl
                      refine ⟨[(82, .agg #[.int .u8 (Nd.times A mn mx).kind, .int .u64 (Nd.times A mn mx).set.a, .int .u64 (Nd.times A mn mx).set.b, .int .u64 (Nd.times A mn mx).set.c, .int .u64 (Nd.times A mn mx).set.d, .int .i64 (Nd.times A mn mx).least, .int .i64 (Nd.times A mn mx).most, .slice (some ⟨eb1198, eo1198, none⟩) (Nd.times A mn mx).subs.length cap925])], (agree_cons (look_right rfl hv2401) (agree_nil _)), ?_⟩
                      refine WL.call rfl rfl rfl Ty.ent12 (clean_ok _ _ _ _ (h1200.ext hE1)) ?_
                      rintro _ w2403 ⟨he, hE2402⟩
                      have hq : (Nd.clean (Nd.times A mn mx)) = true := (by rw [(Nd.times_rep hfA (by omega) (by omega) (by omega) (by omega))]; exact (Nd.rep_fine hmA (by omega) (by omega) (by omega) (by omega)).clean)
                      rw [hq] at he
                      subst he
                      clear hq
                      have hzhE2402 := hE2402.size
                      refine ⟨_, rfl, ?_⟩
                      refine WL.nil (fun a_ ha => ?_)
                      exact ⟨_, β, ha, hE2402, BExt.refl _ _, hbi.ext hE2402, rfl⟩
                    · intro σ β w1 hE1 hbi hk
                      have hz1 := hE1.size
                      obtain ⟨_, hv2501, rfl⟩ := hk 1 (by kernel_rfl) _ _ rfl rfl
                      refine ⟨[(83, .bool true)], (agree_cons (look_right rfl hv2501) (agree_nil _)), ?_⟩
                      refine WL.move rfl rfl rfl ?_
                      refine WL.nil (fun a_ ha => ?_)
                      exact ⟨_, β, ha, (Ext.refl _), BExt.refl _ _, hbi.ext (Ext.refl _), rfl⟩
                    · intro σ β w1 hE1 hbi hk
                      have hz1 := hE1.size
                      obtain ⟨_, hv2601, rfl⟩ := hk 2 (by kernel_rfl) _ _ rfl rfl
                      refine ⟨[(84, .bool true)], (agree_cons (look_right rfl hv2601) (agree_nil _)), ?_⟩
                      refine WL.fieldAddr rfl rfl Ty.fld29_0 rfl ?_
                      refine WL.nil (fun a_ ha => ?_)
                      exact ⟨_, β, ha, (Ext.refl _), BExt.refl _ _, hbi.ext (Ext.refl _), rfl⟩
                    · intro σ β w1 hE1 hbi hk
                      have hz1 := hE1.size
                      obtain ⟨_, hv2701, rfl⟩ := hk 2 (by kernel_rfl) _ _ rfl rfl
                      obtain ⟨_, hv2702, rfl⟩ := hk 3 (by kernel_rfl) _ _ rfl rfl
                      refine ⟨[(84, .bool true), (85, .pointer (some ⟨b928, 0, none⟩))], (agree_cons (look_right rfl hv2701) (agree_cons (look_right rfl hv2702) (agree_nil _))), ?_⟩
                      refine WL.load_fld rfl rfl Ty.flat5 rfl (hR934.ext hE1) rfl ?_
                      refine WL.nil (fun a_ ha => ?_)
                      exact ⟨_, β, ha, (Ext.refl _), BExt.refl _ _, hbi.ext (Ext.refl _), rfl⟩
                    · intro σ β w1 hE1 hbi hk
                      have hz1 := hE1.size
                      obtain ⟨_, hv2801, rfl⟩ := hk 2 (by kernel_rfl) _ _ rfl rfl
                      obtain ⟨_, hv2802, rfl⟩ := hk 4 (by kernel_rfl) _ _ rfl rfl
                      refine ⟨[(84, .bool true), (86, .int .u8 ((Nd.times A mn mx).kind))], (agree_cons (look_right rfl hv2801) (agree_cons (look_right rfl hv2802) (agree_nil _))), ?_⟩
                      refine WL.eql (b := true) rfl rfl rfl rfl (by rw [(Nd.times_rep hfA (by omega) (by omega) (by omega) (by omega))]; rfl) ?_
                      refine WL.nil (fun a_ ha => ?_)
                      exact ⟨_, β, ha, (Ext.refl _), BExt.refl _ _, hbi.ext (Ext.refl _), rfl⟩
                    · intro σ β w1 hE1 hbi hk
                      have hz1 := hE1.size
                      obtain ⟨_, hv2901, rfl⟩ := hk 2 (by kernel_rfl) _ _ rfl rfl
                      obtain ⟨_, hv2902, rfl⟩ := hk 5 (by kernel_rfl) _ _ rfl rfl
                      refine ⟨[(84, .bool true), (87, .bool true)], (agree_cons (look_right rfl hv2901) (agree_cons (look_right rfl hv2902) (agree_nil _))), ?_⟩
                      refine WL.pick_t rfl rfl rfl rfl ?_
                      refine WL.nil (fun a_ ha => ?_)
                      exact ⟨_, β, ha, (Ext.refl _), BExt.refl _ _, hbi.ext (Ext.refl _), rfl⟩
                    · intro σ β w1 hE1 hbi hk
                      have hz1 := hE1.size
                      obtain ⟨_, hv3001, rfl⟩ := hk 6 (by kernel_rfl) _ _ rfl rfl
                      refine ⟨[(88, .bool true)], (agree_cons (look_right rfl hv3001) (agree_nil _)), ?_⟩
                      refine WL.move rfl rfl rfl ?_
                      refine WL.nil (fun a_ ha => ?_)
                      exact ⟨_, β, ha, (Ext.refl _), BExt.refl _ _, hbi.ext (Ext.refl _), rfl⟩
                    · intro σ β w1 hE1 hbi hk
                      have hz1 := hE1.size
                      obtain ⟨_, hv3101, rfl⟩ := hk 7 (by kernel_rfl) _ _ rfl rfl
                      refine ⟨[(89, .bool true)], (agree_cons (look_right rfl hv3101) (agree_nil _)), ?_⟩
                      refine WL.fieldAddr rfl rfl Ty.fld29_2 rfl ?_
                      refine WL.nil (fun a_ ha => ?_)
                      exact ⟨_, β, ha, (Ext.refl _), BExt.refl _ _, hbi.ext (Ext.refl _), rfl⟩
                    · intro σ β w1 hE1 hbi hk
                      have hz1 := hE1.size
                      obtain ⟨_, hv3201, rfl⟩ := hk 7 (by kernel_rfl) _ _ rfl rfl
                      obtain ⟨_, hv3202, rfl⟩ := hk 8 (by kernel_rfl) _ _ rfl rfl
                      refine ⟨[(89, .bool true), (90, .pointer (some ⟨b928, 5, none⟩))], (agree_cons (look_right rfl hv3201) (agree_cons (look_right rfl hv3202) (agree_nil _))), ?_⟩
                      refine WL.load_fld rfl rfl Ty.flat3 rfl (hR934.ext hE1) rfl ?_
                      refine WL.nil (fun a_ ha => ?_)
                      exact ⟨_, β, ha, (Ext.refl _), BExt.refl _ _, hbi.ext (Ext.refl _), rfl⟩
                    · intro σ β w1 hE1 hbi hk
                      have hz1 := hE1.size
                      obtain ⟨_, hv3301, rfl⟩ := hk 7 (by kernel_rfl) _ _ rfl rfl
                      refine ⟨[(89, .bool true)], (agree_cons (look_right rfl hv3301) (agree_nil _)), ?_⟩
                      refine WL.move rfl rfl rfl ?_
                      refine WL.nil (fun a_ ha => ?_)
                      exact ⟨_, β, ha, (Ext.refl _), BExt.refl _ _, hbi.ext (Ext.refl _), rfl⟩
                    · intro σ β w1 hE1 hbi hk
                      have hz1 := hE1.size
                      obtain ⟨_, hv3401, rfl⟩ := hk 7 (by kernel_rfl) _ _ rfl rfl
                      obtain ⟨_, hv3402, rfl⟩ := hk 9 (by kernel_rfl) _ _ rfl rfl
                      obtain ⟨_, hv3403, rfl⟩ := hk 10 (by kernel_rfl) _ _ rfl rfl
                      refine ⟨[(89, .bool true), (91, .int .i64 ((Nd.times A mn mx).least)), (92, .int .i64 mn)], (agree_cons (look_right rfl hv3401) (agree_cons (look_right rfl hv3402) (agree_cons (look_right rfl hv3403) (agree_nil _)))), ?_⟩
                      refine WL.eql (b := true) rfl rfl rfl rfl (by rw [(Nd.times_rep hfA (by omega) (by omega) (by omega) (by omega))]; exact beq_self_eq_true mn) ?_
                      refine WL.nil (fun a_ ha => ?_)
                      exact ⟨_, β, ha, (Ext.refl _), BExt.refl _ _, hbi.ext (Ext.refl _), rfl⟩
                    · intro σ β w1 hE1 hbi hk
                      have hz1 := hE1.size
                      obtain ⟨_, hv3501, rfl⟩ := hk 7 (by kernel_rfl) _ _ rfl rfl
                      obtain ⟨_, hv3502, rfl⟩ := hk 11 (by kernel_rfl) _ _ rfl rfl
                      refine ⟨[(89, .bool true), (93, .bool true)], (agree_cons (look_right rfl hv3501) (agree_cons (look_right rfl hv3502) (agree_nil _))), ?_⟩
                      refine WL.pick_t rfl rfl rfl rfl ?_
                      refine WL.nil (fun a_ ha => ?_)
                      exact ⟨_, β, ha, (Ext.refl _), BExt.refl _ _, hbi.ext (Ext.refl _), rfl⟩
                    · intro σ β w1 hE1 hbi hk
                      have hz1 := hE1.size
                      obtain ⟨_, hv3601, rfl⟩ := hk 12 (by kernel_rfl) _ _ rfl rfl
                      refine ⟨[(94, .bool true)], (agree_cons (look_right rfl hv3601) (agree_nil _)), ?_⟩
                      refine WL.move rfl rfl rfl ?_
                      refine WL.nil (fun a_ ha => ?_)
                      exact ⟨_, β, ha, (Ext.refl _), BExt.refl _ _, hbi.ext (Ext.refl _), rfl⟩
                    · intro σ β w1 hE1 hbi hk
                      have hz1 := hE1.size
                      obtain ⟨_, hv3701, rfl⟩ := hk 13 (by kernel_rfl) _ _ rfl rfl
                      refine ⟨[(95, .bool true)], (agree_cons (look_right rfl hv3701) (agree_nil _)), ?_⟩
                      refine WL.fieldAddr rfl rfl Ty.fld29_3 rfl ?_
                      refine WL.nil (fun a_ ha => ?_)
                      exact ⟨_, β, ha, (Ext.refl _), BExt.refl _ _, hbi.ext (Ext.refl _), rfl⟩
                    · intro σ β w1 hE1 hbi hk
                      have hz1 := hE1.size
                      obtain ⟨_, hv3801, rfl⟩ := hk 13 (by kernel_rfl) _ _ rfl rfl
                      obtain ⟨_, hv3802, rfl⟩ := hk 14 (by kernel_rfl) _ _ rfl rfl
                      refine ⟨[(95, .bool true), (96, .pointer (some ⟨b928, 6, none⟩))], (agree_cons (look_right rfl hv3801) (agree_cons (look_right rfl hv3802) (agree_nil _))), ?_⟩
                      refine WL.load_fld rfl rfl Ty.flat3 rfl (hR934.ext hE1) rfl ?_
                      refine WL.nil (fun a_ ha => ?_)
                      exact ⟨_, β, ha, (Ext.refl _), BExt.refl _ _, hbi.ext (Ext.refl _), rfl⟩
                    · intro σ β w1 hE1 hbi hk
                      have hz1 := hE1.size
                      obtain ⟨_, hv3901, rfl⟩ := hk 13 (by kernel_rfl) _ _ rfl rfl
                      refine ⟨[(95, .bool true)], (agree_cons (look_right rfl hv3901) (agree_nil _)), ?_⟩
                      refine WL.move rfl rfl rfl ?_
                      refine WL.nil (fun a_ ha => ?_)
                      exact ⟨_, β, ha, (Ext.refl _), BExt.refl _ _, hbi.ext (Ext.refl _), rfl⟩
                    · intro σ β w1 hE1 hbi hk
                      have hz1 := hE1.size
                      obtain ⟨_, hv4001, rfl⟩ := hk 13 (by kernel_rfl) _ _ rfl rfl
                      obtain ⟨_, hv4002, rfl⟩ := hk 15 (by kernel_rfl) _ _ rfl rfl
                      obtain ⟨_, hv4003, rfl⟩ := hk 16 (by kernel_rfl) _ _ rfl rfl
                      refine ⟨[(95, .bool true), (97, .int .i64 ((Nd.times A mn mx).most)), (98, .int .i64 mx)], (agree_cons (look_right rfl hv4001) (agree_cons (look_right rfl hv4002) (agree_cons (look_right rfl hv4003) (agree_nil _)))), ?_⟩
                      refine WL.eql (b := true) rfl rfl rfl rfl (by rw [(Nd.times_rep hfA (by omega) (by omega) (by omega) (by omega))]; exact beq_self_eq_true mx) ?_
                      refine WL.nil (fun a_ ha => ?_)
                      exact ⟨_, β, ha, (Ext.refl _), BExt.refl _ _, hbi.ext (Ext.refl _), rfl⟩
                    · intro σ β w1 hE1 hbi hk
                      have hz1 := hE1.size
                      obtain ⟨_, hv4101, rfl⟩ := hk 13 (by kernel_rfl) _ _ rfl rfl
                      obtain ⟨_, hv4102, rfl⟩ := hk 17 (by kernel_rfl) _ _ rfl rfl
                      refine ⟨[(95, .bool true), (99, .bool true)], (agree_cons (look_right rfl hv4101) (agree_cons (look_right rfl hv4102) (agree_nil _))), ?_⟩
                      refine WL.pick_t rfl rfl rfl rfl ?_
                      refine WL.nil (fun a_ ha => ?_)
                      exact ⟨_, β, ha, (Ext.refl _), BExt.refl _ _, hbi.ext (Ext.refl _), rfl⟩
                    · intro σ β w1 hE1 hbi hk
                      have hz1 := hE1.size
                      obtain ⟨_, hv4201, rfl⟩ := hk 18 (by kernel_rfl) _ _ rfl rfl
                      refine ⟨[(100, .bool true)], (agree_cons (look_right rfl hv4201) (agree_nil _)), ?_⟩
                      refine WL.move rfl rfl rfl ?_
                      refine WL.nil (fun a_ ha => ?_)
                      exact ⟨_, β, ha, (Ext.refl _), BExt.refl _ _, hbi.ext (Ext.refl _), rfl⟩
                    · intro σ β w1 hE1 hbi hk
                      have hz1 := hE1.size
                      obtain ⟨_, hv4301, rfl⟩ := hk 19 (by kernel_rfl) _ _ rfl rfl
                      refine ⟨[(101, .bool true)], (agree_cons (look_right rfl hv4301) (agree_nil _)), ?_⟩
                      refine WL.fieldAddr rfl rfl Ty.fld29_4 rfl ?_
                      refine WL.nil (fun a_ ha => ?_)
                      exact ⟨_, β, ha, (Ext.refl _), BExt.refl _ _, hbi.ext (Ext.refl _), rfl⟩
                    · intro σ β w1 hE1 hbi hk
                      have hz1 := hE1.size
                      obtain ⟨_, hv4401, rfl⟩ := hk 19 (by kernel_rfl) _ _ rfl rfl
                      obtain ⟨_, hv4402, rfl⟩ := hk 20 (by kernel_rfl) _ _ rfl rfl
                      refine ⟨[(101, .bool true), (102, .pointer (some ⟨b928, 7, none⟩))], (agree_cons (look_right rfl hv4401) (agree_cons (look_right rfl hv4402) (agree_nil _))), ?_⟩
                      refine WL.load_fld rfl rfl Ty.flat27 rfl (hR934.ext hE1) rfl ?_
                      refine WL.nil (fun a_ ha => ?_)
                      exact ⟨_, β, ha, (Ext.refl _), BExt.refl _ _, hbi.ext (Ext.refl _), rfl⟩
                    · intro σ β w1 hE1 hbi hk
                      have hz1 := hE1.size
                      obtain ⟨_, hv4501, rfl⟩ := hk 19 (by kernel_rfl) _ _ rfl rfl
                      obtain ⟨_, hv4502, rfl⟩ := hk 21 (by kernel_rfl) _ _ rfl rfl
                      refine ⟨[(101, .bool true), (103, .slice (some ⟨eb1198, eo1198, none⟩) ((Nd.times A mn mx).subs.length) cap925)], (agree_cons (look_right rfl hv4501) (agree_cons (look_right rfl hv4502) (agree_nil _))), ?_⟩
                      refine WL.len rfl rfl Try.underlying27 rfl ?_
                      refine WL.nil (fun a_ ha => ?_)
                      exact ⟨_, β, ha, (Ext.refl _), BExt.refl _ _, hbi.ext (Ext.refl _), rfl⟩
                    · intro σ β w1 hE1 hbi hk
                      have hz1 := hE1.size
                      obtain ⟨_, hv4601, rfl⟩ := hk 19 (by kernel_rfl) _ _ rfl rfl
                      obtain ⟨_, hv4602, rfl⟩ := hk 22 (by kernel_rfl) _ _ rfl rfl
                      refine ⟨[(101, .bool true), (104, .int .i64 ((Nd.times A mn mx).subs.length))], (agree_cons (look_right rfl hv4601) (agree_cons (look_right rfl hv4602) (agree_nil _))), ?_⟩
                      refine WL.eql (b := true) rfl rfl rfl rfl (by rw [(Nd.times_rep hfA (by omega) (by omega) (by omega) (by omega))]; rfl) ?_
                      refine WL.nil (fun a_ ha => ?_)
                      exact ⟨_, β, ha, (Ext.refl _), BExt.refl _ _, hbi.ext (Ext.refl _), rfl⟩
                    · intro σ β w1 hE1 hbi hk
                      have hz1 := hE1.size
                      obtain ⟨_, hv4701, rfl⟩ := hk 19 (by kernel_rfl) _ _ rfl rfl
                      obtain ⟨_, hv4702, rfl⟩ := hk 23 (by kernel_rfl) _ _ rfl rfl
                      refine ⟨[(101, .bool true), (105, .bool true)], (agree_cons (look_right rfl hv4701) (agree_cons (look_right rfl hv4702) (agree_nil _))), ?_⟩
                      refine WL.pick_t rfl rfl rfl rfl ?_
                      refine WL.nil (fun a_ ha => ?_)
                      exact ⟨_, β, ha, (Ext.refl _), BExt.refl _ _, hbi.ext (Ext.refl _), rfl⟩
                    · intro σ β w1 hE1 hbi hk
                      have hz1 := hE1.size
                      obtain ⟨_, hv4801, rfl⟩ := hk 24 (by kernel_rfl) _ _ rfl rfl
                      refine ⟨[(106, .bool true)], (agree_cons (look_right rfl hv4801) (agree_nil _)), ?_⟩
                      refine WL.move rfl rfl rfl ?_
                      refine WL.nil (fun a_ ha => ?_)
                      exact ⟨_, β, ha, (Ext.refl _), BExt.refl _ _, hbi.ext (Ext.refl _), rfl⟩
                    · intro σ β w1 hE1 hbi hk
                      have hz1 := hE1.size
                      obtain ⟨_, hv4901, rfl⟩ := hk 25 (by kernel_rfl) _ _ rfl rfl
                      refine ⟨[(107, .bool true)], (agree_cons (look_right rfl hv4901) (agree_nil _)), ?_⟩
                      refine WL.fieldAddr rfl rfl Ty.fld29_4 rfl ?_
                      refine WL.nil (fun a_ ha => ?_)
                      exact ⟨_, β, ha, (Ext.refl _), BExt.refl _ _, hbi.ext (Ext.refl _), rfl⟩
                    · intro σ β w1 hE1 hbi hk
                      have hz1 := hE1.size
                      obtain ⟨_, hv5001, rfl⟩ := hk 25 (by kernel_rfl) _ _ rfl rfl
                      obtain ⟨_, hv5002, rfl⟩ := hk 26 (by kernel_rfl) _ _ rfl rfl
                      refine ⟨[(107, .bool true), (108, .pointer (some ⟨b928, 7, none⟩))], (agree_cons (look_right rfl hv5001) (agree_cons (look_right rfl hv5002) (agree_nil _))), ?_⟩
                      refine WL.load_fld rfl rfl Ty.flat27 rfl (hR934.ext hE1) rfl ?_
                      refine WL.nil (fun a_ ha => ?_)
                      exact ⟨_, β, ha, (Ext.refl _), BExt.refl _ _, hbi.ext (Ext.refl _), rfl⟩
                    · intro σ β w1 hE1 hbi hk
                      have hz1 := hE1.size
                      obtain ⟨_, hv5101, rfl⟩ := hk 25 (by kernel_rfl) _ _ rfl rfl
                      obtain ⟨_, hv5102, rfl⟩ := hk 27 (by kernel_rfl) _ _ rfl rfl
                      refine ⟨[(107, .bool true), (109, .slice (some ⟨eb1198, eo1198, none⟩) ((Nd.times A mn mx).subs.length) cap925)], (agree_cons (look_right rfl hv5101) (agree_cons (look_right rfl hv5102) (agree_nil _))), ?_⟩
                      refine WL.indexAddr (i := 0) rfl rfl Ty.slice27 rfl rfl rfl (by rw [(Nd.times_rep hfA (by omega) (by omega) (by omega) (by omega))]; exact Nat.zero_lt_one) ?_
                      refine WL.nil (fun a_ ha => ?_)
                      exact ⟨_, β, ha, (Ext.refl _), BExt.refl _ _, hbi.ext (Ext.refl _), rfl⟩
                    · intro σ β w1 hE1 hbi hk
                      have hz1 := hE1.size
                      obtain ⟨_, hv5201, rfl⟩ := hk 25 (by kernel_rfl) _ _ rfl rfl
                      obtain ⟨_, hv5202, rfl⟩ := hk 28 (by kernel_rfl) _ _ rfl rfl
                      refine ⟨[(107, .bool true), (110, .pointer (some ⟨eb1198, eo1198 + 0 * 8, none⟩))], (agree_cons (look_right rfl hv5201) (agree_cons (look_right rfl hv5202) (agree_nil _))), ?_⟩
                      refine WL.load_agg (l := tcells t1198 (.slice a1198 t1198.subs.length cap1198)) rfl rfl Ty.agg29 rfl (her1198.ext hE1) ?_
                      refine WL.nil (fun a_ ha => ?_)
                      exact ⟨_, β, ha, (Ext.refl _), BExt.refl _ _, hbi.ext (Ext.refl _), rfl⟩
                    · intro σ β w1 hE1 hbi hk
                      have hz1 := hE1.size
                      obtain ⟨_, hv5301, rfl⟩ := hk 25 (by kernel_rfl) _ _ rfl rfl
                      refine ⟨[(107, .bool true)], (agree_cons (look_right rfl hv5301) (agree_nil _)), ?_⟩
                      refine WL.load_box rfl rfl rfl (h1142.ext hE1) Ty.agg29 ?_
                      refine WL.nil (fun a_ ha => ?_)
                      exact ⟨_, β, ha, (Ext.refl _), BExt.refl _ _, hbi.ext (Ext.refl _), rfl⟩
                    · intro σ β w1 hE1 hbi hk
                      have hz1 := hE1.size
                      obtain ⟨_, hv5401, rfl⟩ := hk 25 (by kernel_rfl) _ _ rfl rfl
                      obtain ⟨_, hv5402, rfl⟩ := hk 29 (by kernel_rfl) _ _ rfl rfl
                      obtain ⟨_, hv5403, rfl⟩ := hk 30 (by kernel_rfl) _ _ rfl rfl
                      refine ⟨[(107, .bool true), (111, .agg #[.int .u8 t1198.kind, .int .u64 t1198.set.a, .int .u64 t1198.set.b, .int .u64 t1198.set.c, .int .u64 t1198.set.d, .int .i64 t1198.least, .int .i64 t1198.most, .slice a1198 t1198.subs.length cap1198]), (112, .agg #[.int .u8 A.kind, .int .u64 A.set.a, .int .u64 A.set.b, .int .u64 A.set.c, .int .u64 A.set.d, .int .i64 A.least, .int .i64 A.most, .slice a3 A.subs.length cap3])], (agree_cons (look_right rfl hv5401) (agree_cons (look_right rfl hv5402) (agree_cons (look_right rfl hv5403) (agree_nil _)))), ?_⟩
                      refine WL.call rfl rfl rfl Ty.ent14 (Same_ok _ _ _ _ _ t1198 A (hn1198.ext hE1) (h1199.ext hE1)) ?_
                      rintro _ w5405 ⟨he, hE5404⟩
                      have hq : (Nd.light t1198 && Nd.light A && Nd.same t1198 A) = true := (by rw [h0t1198]; exact Nd.Same_self hfA.light)
                      rw [hq] at he
                      subst he
                      clear hq
                      have hzhE5404 := hE5404.size
                      refine ⟨_, rfl, ?_⟩
                      refine WL.nil (fun a_ ha => ?_)
                      exact ⟨_, β, ha, hE5404, BExt.refl _ _, hbi.ext hE5404, rfl⟩
                    · intro σ β w1 hE1 hbi hk
                      have hz1 := hE1.size
                      obtain ⟨_, hv5501, rfl⟩ := hk 25 (by kernel_rfl) _ _ rfl rfl
                      obtain ⟨_, hv5502, rfl⟩ := hk 31 (by kernel_rfl) _ _ rfl rfl
                      refine ⟨[(107, .bool true), (113, .bool true)], (agree_cons (look_right rfl hv5501) (agree_cons (look_right rfl hv5502) (agree_nil _))), ?_⟩
                      refine WL.pick_t rfl rfl rfl rfl ?_
                      refine WL.nil (fun a_ ha => ?_)
                      exact ⟨_, β, ha, (Ext.refl _), BExt.refl _ _, hbi.ext (Ext.refl _), rfl⟩
                    · intro σ β w1 hE1 hbi hk
                      have hz1 := hE1.size
                      obtain ⟨_, hv5601, rfl⟩ := hk 32 (by kernel_rfl) _ _ rfl rfl
                      refine ⟨[(114, .bool true)], (agree_cons (look_right rfl hv5601) (agree_nil _)), ?_⟩
                      refine WL.move rfl rfl rfl ?_
                      refine WL.nil (fun a_ ha => ?_)
                      exact ⟨_, β, ha, (Ext.refl _), BExt.refl _ _, hbi.ext (Ext.refl _), rfl⟩
                    · intro σ β w1 hE1 hbi hk
                      have hz1 := hE1.size
                      obtain ⟨_, hv5701, rfl⟩ := hk 33 (by kernel_rfl) _ _ rfl rfl
                      refine ⟨[(115, .bool true)], (agree_cons (look_right rfl hv5701) (agree_nil _)), ?_⟩
                      refine WL.load_box rfl rfl rfl (hR934.ext hE1) Ty.agg29 ?_
                      refine WL.nil (fun a_ ha => ?_)
                      exact ⟨_, β, ha, (Ext.refl _), BExt.refl _ _, hbi.ext (Ext.refl _), rfl⟩
                    · intro σ β w1 hE1 hbi hk
                      have hz1 := hE1.size
                      obtain ⟨_, hv5801, rfl⟩ := hk 33 (by kernel_rfl) _ _ rfl rfl
                      obtain ⟨_, hv5802, rfl⟩ := hk 34 (by kernel_rfl) _ _ rfl rfl
                      refine ⟨[(115, .bool true), (116, .agg #[.int .u8 (Nd.times A mn mx).kind, .int .u64 (Nd.times A mn mx).set.a, .int .u64 (Nd.times A mn mx).set.b, .int .u64 (Nd.times A mn mx).set.c, .int .u64 (Nd.times A mn mx).set.d, .int .i64 (Nd.times A mn mx).least, .int .i64 (Nd.times A mn mx).most, .slice (some ⟨eb1198, eo1198, none⟩) (Nd.times A mn mx).subs.length cap925])], (agree_cons (look_right rfl hv5801) (agree_cons (look_right rfl hv5802) (agree_nil _))), ?_⟩
                      refine WL.call rfl rfl rfl Ty.ent15 (Positions_ok _ _ _ _ (h1200.ext hE1)) ?_
                      rintro _ w5804 ⟨rfl, hE5803⟩
                      have hzhE5803 := hE5803.size
                      refine ⟨_, rfl, ?_⟩
                      refine WL.nil (fun a_ ha => ?_)
                      exact ⟨_, β, ha, hE5803, BExt.refl _ _, hbi.ext hE5803, rfl⟩
                    · intro σ β w1 hE1 hbi hk
                      have hz1 := hE1.size
                      obtain ⟨_, hv5901, rfl⟩ := hk 33 (by kernel_rfl) _ _ rfl rfl
                      refine ⟨[(115, .bool true)], (agree_cons (look_right rfl hv5901) (agree_nil _)), ?_⟩
                      refine WL.move rfl rfl rfl ?_
                      refine WL.nil (fun a_ ha => ?_)
                      exact ⟨_, β, ha, (Ext.refl _), BExt.refl _ _, hbi.ext (Ext.refl _), rfl⟩
                    · intro σ β w1 hE1 hbi hk
                      have hz1 := hE1.size
                      obtain ⟨_, hv6001, rfl⟩ := hk 33 (by kernel_rfl) _ _ rfl rfl
                      refine ⟨[(115, .bool true)], (agree_cons (look_right rfl hv6001) (agree_nil _)), ?_⟩
                      refine WL.load_box rfl rfl rfl (h1142.ext hE1) Ty.agg29 ?_
                      refine WL.nil (fun a_ ha => ?_)
                      exact ⟨_, β, ha, (Ext.refl _), BExt.refl _ _, hbi.ext (Ext.refl _), rfl⟩
                    · intro σ β w1 hE1 hbi hk
                      have hz1 := hE1.size
                      obtain ⟨_, hv6101, rfl⟩ := hk 33 (by kernel_rfl) _ _ rfl rfl
                      obtain ⟨_, hv6102, rfl⟩ := hk 37 (by kernel_rfl) _ _ rfl rfl
                      refine ⟨[(115, .bool true), (119, .agg #[.int .u8 A.kind, .int .u64 A.set.a, .int .u64 A.set.b, .int .u64 A.set.c, .int .u64 A.set.d, .int .i64 A.least, .int .i64 A.most, .slice a3 A.subs.length cap3])], (agree_cons (look_right rfl hv6101) (agree_cons (look_right rfl hv6102) (agree_nil _))), ?_⟩
                      refine WL.call rfl rfl rfl Ty.ent15 (Positions_ok _ _ _ _ (h1199.ext hE1)) ?_
                      rintro _ w6104 ⟨rfl, hE6103⟩
                      have hzhE6103 := hE6103.size
                      refine ⟨_, rfl, ?_⟩
                      refine WL.nil (fun a_ ha => ?_)
                      exact ⟨_, β, ha, hE6103, BExt.refl _ _, hbi.ext hE6103, rfl⟩
                    · intro σ β w1 hE1 hbi hk
                      have hz1 := hE1.size
                      obtain ⟨_, hv6201, rfl⟩ := hk 33 (by kernel_rfl) _ _ rfl rfl
                      obtain ⟨_, hv6202, rfl⟩ := hk 36 (by kernel_rfl) _ _ rfl rfl
                      obtain ⟨_, hv6203, rfl⟩ := hk 38 (by kernel_rfl) _ _ rfl rfl
                      refine ⟨[(115, .bool true), (118, .int .i64 (Nd.max3 mn mx 1)), (120, .int .i64 (Nd.posns A))], (agree_cons (look_right rfl hv6201) (agree_cons (look_right rfl hv6202) (agree_cons (look_right rfl hv6203) (agree_nil _)))), ?_⟩
                      refine WL.mul (v := Nd.max3 mn mx 1 * (Nd.posns A)) rfl rfl rfl rfl (IntWalk.i64_in _ (by have h1 := Nd.tms_eq (mn := mn) (mx := mx) (by omega) (by omega); have := Nd.mul_le16 h1.2.1 h1.2.2 hpA.1 hpA.2; omega)) ?_
                      refine WL.nil (fun a_ ha => ?_)
                      exact ⟨_, β, ha, (Ext.refl _), BExt.refl _ _, hbi.ext (Ext.refl _), rfl⟩
                    · intro σ β w1 hE1 hbi hk
                      have hz1 := hE1.size
                      obtain ⟨_, hv6301, rfl⟩ := hk 33 (by kernel_rfl) _ _ rfl rfl
                      obtain ⟨_, hv6302, rfl⟩ := hk 35 (by kernel_rfl) _ _ rfl rfl
                      obtain ⟨_, hv6303, rfl⟩ := hk 39 (by kernel_rfl) _ _ rfl rfl
                      refine ⟨[(115, .bool true), (117, .int .i64 (Nd.posns (Nd.times A mn mx))), (121, .int .i64 (Nd.max3 mn mx 1 * (Nd.posns A)))], (agree_cons (look_right rfl hv6301) (agree_cons (look_right rfl hv6302) (agree_cons (look_right rfl hv6303) (agree_nil _)))), ?_⟩
                      refine WL.eql (b := true) rfl rfl rfl rfl (by rw [(Nd.times_rep hfA (by omega) (by omega) (by omega) (by omega)), Nd.rep_posns hmA (by omega) (by omega) (by omega) (by omega)]; exact beq_self_eq_true _) ?_
                      refine WL.nil (fun a_ ha => ?_)
                      exact ⟨_, β, ha, (Ext.refl _), BExt.refl _ _, hbi.ext (Ext.refl _), rfl⟩
                    · intro σ β w1 hE1 hbi hk
                      have hz1 := hE1.size
                      obtain ⟨_, hv6401, rfl⟩ := hk 33 (by kernel_rfl) _ _ rfl rfl
                      obtain ⟨_, hv6402, rfl⟩ := hk 40 (by kernel_rfl) _ _ rfl rfl
                      refine ⟨[(115, .bool true), (122, .bool true)], (agree_cons (look_right rfl hv6401) (agree_cons (look_right rfl hv6402) (agree_nil _))), ?_⟩
                      refine WL.pick_t rfl rfl rfl rfl ?_
                      refine WL.nil (fun a_ ha => ?_)
                      exact ⟨_, β, ha, (Ext.refl _), BExt.refl _ _, hbi.ext (Ext.refl _), rfl⟩
                    · intro σ β w1 hE1 hbi hk
                      have hz1 := hE1.size
                      obtain ⟨_, hv6501, rfl⟩ := hk 41 (by kernel_rfl) _ _ rfl rfl
                      refine ⟨[(123, .bool true)], (agree_cons (look_right rfl hv6501) (agree_nil _)), ?_⟩
                      refine WL.move rfl rfl rfl ?_
                      refine WL.nil (fun a_ ha => ?_)
                      exact ⟨_, β, ha, (Ext.refl _), BExt.refl _ _, hbi.ext (Ext.refl _), rfl⟩
                    · intro σ β w1 hE1 hbi hk
                      have hz1 := hE1.size
                      obtain ⟨_, hv6601, rfl⟩ := hk 42 (by kernel_rfl) _ _ rfl rfl
                      refine ⟨[(124, .bool true)], (agree_cons (look_right rfl hv6601) (agree_nil _)), ?_⟩
                      refine WL.load_box rfl rfl rfl (hR934.ext hE1) Ty.agg29 ?_
                      refine WL.nil (fun a_ ha => ?_)
                      exact ⟨_, β, ha, (Ext.refl _), BExt.refl _ _, hbi.ext (Ext.refl _), rfl⟩
                    · intro σ β w1 hE1 hbi hk
                      have hz1 := hE1.size
                      obtain ⟨_, hv6701, rfl⟩ := hk 42 (by kernel_rfl) _ _ rfl rfl
                      obtain ⟨_, hv6702, rfl⟩ := hk 43 (by kernel_rfl) _ _ rfl rfl
                      refine ⟨[(124, .bool true), (125, .agg #[.int .u8 (Nd.times A mn mx).kind, .int .u64 (Nd.times A mn mx).set.a, .int .u64 (Nd.times A mn mx).set.b, .int .u64 (Nd.times A mn mx).set.c, .int .u64 (Nd.times A mn mx).set.d, .int .i64 (Nd.times A mn mx).least, .int .i64 (Nd.times A mn mx).most, .slice (some ⟨eb1198, eo1198, none⟩) (Nd.times A mn mx).subs.length cap925])], (agree_cons (look_right rfl hv6701) (agree_cons (look_right rfl hv6702) (agree_nil _))), ?_⟩
                      refine WL.call rfl rfl rfl Ty.ent16 (size_ok _ _ _ _ (h1200.ext hE1)) ?_
                      rintro _ w6704 ⟨rfl, hE6703⟩
                      have hzhE6703 := hE6703.size
                      refine ⟨_, rfl, ?_⟩
                      refine WL.nil (fun a_ ha => ?_)
                      exact ⟨_, β, ha, hE6703, BExt.refl _ _, hbi.ext hE6703, rfl⟩
                    · intro σ β w1 hE1 hbi hk
                      have hz1 := hE1.size
                      obtain ⟨_, hv6801, rfl⟩ := hk 42 (by kernel_rfl) _ _ rfl rfl
                      refine ⟨[(124, .bool true)], (agree_cons (look_right rfl hv6801) (agree_nil _)), ?_⟩
                      refine WL.load_box rfl rfl rfl (h1142.ext hE1) Ty.agg29 ?_
                      refine WL.nil (fun a_ ha => ?_)
                      exact ⟨_, β, ha, (Ext.refl _), BExt.refl _ _, hbi.ext (Ext.refl _), rfl⟩
                    · intro σ β w1 hE1 hbi hk
                      have hz1 := hE1.size
                      obtain ⟨_, hv6901, rfl⟩ := hk 42 (by kernel_rfl) _ _ rfl rfl
                      obtain ⟨_, hv6902, rfl⟩ := hk 45 (by kernel_rfl) _ _ rfl rfl
                      refine ⟨[(124, .bool true), (127, .agg #[.int .u8 A.kind, .int .u64 A.set.a, .int .u64 A.set.b, .int .u64 A.set.c, .int .u64 A.set.d, .int .i64 A.least, .int .i64 A.most, .slice a3 A.subs.length cap3])], (agree_cons (look_right rfl hv6901) (agree_cons (look_right rfl hv6902) (agree_nil _))), ?_⟩
                      refine WL.call rfl rfl rfl Ty.ent16 (size_ok _ _ _ _ (h1199.ext hE1)) ?_
                      rintro _ w6904 ⟨rfl, hE6903⟩
                      have hzhE6903 := hE6903.size
                      refine ⟨_, rfl, ?_⟩
                      refine WL.nil (fun a_ ha => ?_)
                      exact ⟨_, β, ha, hE6903, BExt.refl _ _, hbi.ext hE6903, rfl⟩
                    · intro σ β w1 hE1 hbi hk
                      have hz1 := hE1.size
                      obtain ⟨_, hv7001, rfl⟩ := hk 42 (by kernel_rfl) _ _ rfl rfl
                      obtain ⟨_, hv7002, rfl⟩ := hk 46 (by kernel_rfl) _ _ rfl rfl
                      refine ⟨[(124, .bool true), (128, .int .i64 (Nd.sizes A))], (agree_cons (look_right rfl hv7001) (agree_cons (look_right rfl hv7002) (agree_nil _))), ?_⟩
                      refine WL.add (v := 1 + (Nd.sizes A)) rfl rfl rfl rfl (IntWalk.i64_in _ (by omega)) ?_
                      refine WL.nil (fun a_ ha => ?_)
                      exact ⟨_, β, ha, (Ext.refl _), BExt.refl _ _, hbi.ext (Ext.refl _), rfl⟩
                    · intro σ β w1 hE1 hbi hk
                      have hz1 := hE1.size
                      obtain ⟨_, hv7101, rfl⟩ := hk 42 (by kernel_rfl) _ _ rfl rfl
                      obtain ⟨_, hv7102, rfl⟩ := hk 44 (by kernel_rfl) _ _ rfl rfl
                      obtain ⟨_, hv7103, rfl⟩ := hk 47 (by kernel_rfl) _ _ rfl rfl
                      refine ⟨[(124, .bool true), (126, .int .i64 (Nd.sizes (Nd.times A mn mx))), (129, .int .i64 (1 + (Nd.sizes A)))], (agree_cons (look_right rfl hv7101) (agree_cons (look_right rfl hv7102) (agree_cons (look_right rfl hv7103) (agree_nil _)))), ?_⟩
                      refine WL.eql (b := true) rfl rfl rfl rfl (by rw [(Nd.times_rep hfA (by omega) (by omega) (by omega) (by omega)), Nd.rep_sizes hmA (by omega) (by omega) (by omega) (by omega)]; exact beq_self_eq_true _) ?_
                      refine WL.nil (fun a_ ha => ?_)
                      exact ⟨_, β, ha, (Ext.refl _), BExt.refl _ _, hbi.ext (Ext.refl _), rfl⟩
                    · intro σ β w1 hE1 hbi hk
                      have hz1 := hE1.size
                      obtain ⟨_, hv7201, rfl⟩ := hk 42 (by kernel_rfl) _ _ rfl rfl
                      obtain ⟨_, hv7202, rfl⟩ := hk 48 (by kernel_rfl) _ _ rfl rfl
                      refine ⟨[(124, .bool true), (130, .bool true)], (agree_cons (look_right rfl hv7201) (agree_cons (look_right rfl hv7202) (agree_nil _))), ?_⟩
                      refine WL.pick_t rfl rfl rfl rfl ?_
                      refine WL.nil (fun a_ ha => ?_)
                      exact ⟨_, β, ha, (Ext.refl _), BExt.refl _ _, hbi.ext (Ext.refl _), rfl⟩
                    intro σ β w2100 hE2100 hbi2100 hk
                    have hz2100 := hE2100.size
                    have hbi := hbi2100
                    obtain ⟨_, hv2101, rfl⟩ := hk 49 (by decide) _ _ rfl rfl
                    refine WL.know [(131, .bool true)] (agree_cons (look_right rfl hv2101) (agree_nil _)) ?_
                    refine WL.assign rfl rfl rfl ?_
                    refine WL.done' ?_ (fun _ _ h => h)
                    refine WC.ret (fun a_ ha => ?_)
                    exact bodyPost_tmp rfl ha rfl ⟨rfl, ((hB935.onto ((((((hB13.onto ((hE1.trans hE4).trans hE10) (by omega)).trans hE915).trans hE918).trans hE923).trans hE926).trans hE932) (by omega)).trans hE2100)⟩
                  | true =>
                    refine WL.eql rfl rfl rfl rfl hc1196 ?_
                    have hp1196 := beq_iff_eq.1 hc1196
                    refine WL.pick_t rfl rfl rfl rfl ?_
                    refine WL.done' ?_ (fun _ _ h => h)
                    refine WC.cond_t rfl ?_
                    refine WC.seqk ?_
                    refine WC.region ?_
                    refine WL.load_box rfl rfl rfl hR934 Ty.agg29 ?_
                    refine WL.load_box rfl rfl rfl h1142 Ty.agg29 ?_
                    have h1247 := ((hn925.ext hE932).but hB935 (by intro h1; first | omega | ((try dsimp only at h1); (repeat' first | (guard_hyp h1 : _ ∨ _; refine Or.elim h1 (fun h1 => ?_) (fun h1 => ?_)) | (guard_hyp h1 : _ ∧ _; have hx := h1.2; replace h1 := h1.1)) <;> first | contradiction | omega)))
                    have h1248 := ((((h921.ext hE923).ext hE926).ext hE932).but hB935 (by intro h1; first | omega | ((try dsimp only at h1); (repeat' first | (guard_hyp h1 : _ ∨ _; refine Or.elim h1 (fun h1 => ?_) (fun h1 => ?_)) | (guard_hyp h1 : _ ∧ _; have hx := h1.2; replace h1 := h1.1)) <;> first | contradiction | omega)))
                    refine WL.call rfl rfl rfl Ty.ent14 (Same_ok _ _ _ _ _ (Nd.times A mn mx) A h1247 h1248) ?_
                    rintro _ w1250 ⟨he, hE1249⟩
                    have hq : (Nd.light (Nd.times A mn mx) && Nd.light A && Nd.same (Nd.times A mn mx) A) = true := (by rw [show mn = 1 by omega, show mx = 1 by omega, Nd.times_one hfA]; exact Nd.Same_self hfA.light)
                    rw [hq] at he
                    subst he
                    clear hq
                    have hzhE1249 := hE1249.size
                    refine ⟨_, rfl, ?_⟩
                    refine WL.assign rfl rfl rfl ?_
                    refine WL.done' ?_ (fun _ _ h => h)
                    refine WC.ret (fun a_ ha => ?_)
                    refine ret_then ?_
                    exact bodyPost_tmp rfl ha rfl ⟨rfl, ((hB935.onto ((((((hB13.onto ((hE1.trans hE4).trans hE10) (by omega)).trans hE915).trans hE918).trans hE923).trans hE926).trans hE932) (by omega)).trans hE1249)⟩
              | true =>
                refine WL.eql rfl rfl rfl rfl hc1144 ?_
                have hp1144 := beq_iff_eq.1 hc1144
                refine WL.pick_f rfl rfl rfl rfl ?_
                refine WL.done' ?_ (fun _ _ h => h)
                refine WC.cond_t rfl ?_
                refine WC.seqk ?_
                refine WC.weaken (r' := [(1, .int .i64 mn), (2, .int .i64 mx), (6, .bool false), (12, .bool false), (7, .pointer (some ⟨b6, 0, none⟩)), (25, .bool false), (8, .pointer (some ⟨b928, 0, none⟩)), (50, .bool false), (66, .bool true)]) (subReg_cons rfl (subReg_cons rfl (subReg_cons rfl (subReg_cons rfl (subReg_cons rfl (subReg_cons rfl (subReg_cons rfl (subReg_cons rfl (subReg_cons rfl (subReg_nil _)))))))))) ?_
                refine WC.region ?_
                refine WL.fieldAddr rfl rfl Ty.fld29_0 rfl ?_
                refine WL.load_fld rfl rfl Ty.flat5 rfl hR934 rfl ?_
                refine WL.eql (b := true) rfl rfl rfl rfl (by rw [Nd.times_empty hfA (by omega) (by omega)]; rfl) ?_
                refine WL.assign rfl rfl rfl ?_
                refine WL.done' ?_ (fun _ _ h => h)
                refine WC.ret (fun a_ ha => ?_)
                refine ret_then ?_
                exact bodyPost_tmp rfl ha rfl ⟨rfl, (hB935.onto ((((((hB13.onto ((hE1.trans hE4).trans hE10) (by omega)).trans hE915).trans hE918).trans hE923).trans hE926).trans hE932) (by omega))⟩
            | true =>
              refine WL.eql rfl rfl rfl rfl hc1143 ?_
              have hp1143 := beq_iff_eq.1 hc1143
              refine WL.move rfl rfl rfl ?_
              refine WL.pass rfl rfl ?_
              refine WL.pass rfl rfl ?_
              refine WL.pick_t rfl rfl rfl rfl ?_
              refine WL.done' ?_ (fun _ _ h => h)
              refine WC.cond_t rfl ?_
              refine WC.seqk ?_
              refine WC.weaken (r' := [(1, .int .i64 mn), (2, .int .i64 mx), (6, .bool false), (12, .bool false), (7, .pointer (some ⟨b6, 0, none⟩)), (25, .bool false), (8, .pointer (some ⟨b928, 0, none⟩)), (50, .bool false), (66, .bool true)]) (subReg_cons rfl (subReg_cons rfl (subReg_cons rfl (subReg_cons rfl (subReg_cons rfl (subReg_cons rfl (subReg_cons rfl (subReg_cons rfl (subReg_cons rfl (subReg_nil _)))))))))) ?_
              refine WC.region ?_
              refine WL.fieldAddr rfl rfl Ty.fld29_0 rfl ?_
              refine WL.load_fld rfl rfl Ty.flat5 rfl hR934 rfl ?_
              refine WL.eql (b := true) rfl rfl rfl rfl (by rw [Nd.times_empty hfA (by omega) (by omega)]; rfl) ?_
              refine WL.assign rfl rfl rfl ?_
              refine WL.done' ?_ (fun _ _ h => h)
              refine WC.ret (fun a_ ha => ?_)
              refine ret_then ?_
              exact bodyPost_tmp rfl ha rfl ⟨rfl, (hB935.onto ((((((hB13.onto ((hE1.trans hE4).trans hE10) (by omega)).trans hE915).trans hE918).trans hE923).trans hE926).trans hE932) (by omega))⟩
      | true =>
        refine WL.eql rfl rfl rfl rfl hc1039 ?_
        have hp1039 := beq_iff_eq.1 hc1039
        refine WL.move rfl rfl rfl ?_
        refine WL.pass rfl rfl ?_
        refine WL.pass rfl rfl ?_
        refine WL.pass rfl rfl ?_
        refine WL.pass rfl rfl ?_
        refine WL.pass rfl rfl ?_
        refine WL.pass rfl rfl ?_
        refine WL.pass rfl rfl ?_
        refine WL.pick_t rfl rfl rfl rfl ?_
        refine WL.pick_t rfl rfl rfl rfl ?_
        refine WL.assign rfl rfl rfl ?_
        refine WL.done' ?_ (fun _ _ h => h)
        refine WC.seqk ?_
        refine WC.seqk ?_
        refine WC.weaken (r' := [(1, .int .i64 mn), (2, .int .i64 mx), (6, .bool false), (12, .bool false), (7, .pointer (some ⟨b6, 0, none⟩)), (25, .bool false), (8, .pointer (some ⟨b928, 0, none⟩)), (9, .bool true)]) (subReg_cons rfl (subReg_cons rfl (subReg_cons rfl (subReg_cons rfl (subReg_cons rfl (subReg_cons rfl (subReg_cons rfl (subReg_cons rfl (subReg_nil _))))))))) ?_
        refine WC.region ?_
        refine WL.move rfl rfl rfl ?_
        refine WL.not rfl rfl rfl ?_
        refine WL.done' ?_ (fun _ _ h => h)
        refine WC.cond_f rfl ?_
        refine WC.skip'' ?_ (fun _ _ h => h)
        refine WC.seqk ?_
        refine WC.seqk ?_
        refine WC.region ?_
        refine WL.fieldAddr rfl rfl Ty.fld29_0 rfl ?_
        have h1090 := (hB935.row (((h920.ext hE923).ext hE926).ext hE932) (by omega))
        refine WL.load_fld rfl rfl Ty.flat5 rfl h1090 rfl ?_
        cases hc1091 : ((A.kind : Int) == 1) with
        | false =>
          refine WL.eql rfl rfl rfl rfl hc1091 ?_
          have hp1091 := beq_eq_false_iff_ne.1 hc1091
          refine WL.move rfl rfl rfl ?_
          refine WL.move rfl rfl rfl ?_
          have hc1092 : ((mx : Int) == 0) = false := beq_eq_false_iff_ne.2 (by omega)
          refine WL.eql rfl rfl rfl rfl hc1092 ?_
          refine WL.pick_f rfl rfl rfl rfl ?_
          refine WL.done' ?_ (fun _ _ h => h)
          refine WC.cond_f rfl ?_
          refine WC.skip'' ?_ (fun _ _ h => h)
          refine WC.seqk ?_
          refine WC.seqk ?_
          refine WC.weaken (r' := [(1, .int .i64 mn), (2, .int .i64 mx), (6, .bool false), (12, .bool false), (7, .pointer (some ⟨b6, 0, none⟩)), (25, .bool false), (8, .pointer (some ⟨b928, 0, none⟩)), (50, .bool false), (66, .bool false)]) (subReg_cons rfl (subReg_cons rfl (subReg_cons rfl (subReg_cons rfl (subReg_cons rfl (subReg_cons rfl (subReg_cons rfl (subReg_cons rfl (subReg_cons rfl (subReg_nil _)))))))))) ?_
          refine WC.region ?_
          refine WL.move rfl rfl rfl ?_
          cases hc1093 : ((mn : Int) == 1) with
          | false =>
            refine WL.eql rfl rfl rfl rfl hc1093 ?_
            have hp1093 := beq_eq_false_iff_ne.1 hc1093
            refine WL.move rfl rfl rfl ?_
            refine WL.pass rfl rfl ?_
            refine WL.pass rfl rfl ?_
            refine WL.pick_f rfl rfl rfl rfl ?_
            refine WL.done' ?_ (fun _ _ h => h)
            refine WC.cond_f rfl ?_
            refine WC.skip'' ?_ (fun _ _ h => h)
            refine WC.seqk ?_
            refine WC.region ?_
            refine WL.move rfl rfl rfl ?_
            refine WL.move rfl rfl rfl ?_
            refine WL.max3 (v := Nd.max3 mn mx 1) rfl rfl rfl rfl rfl rfl ?_
            refine WL.assign rfl rfl rfl ?_
            refine WL.done' ?_ (fun _ _ h => h)
            refine WC.seqk ?_
            have h1094 := ((hts925.ext hE932).but hB935 (by intro h1; first | omega | ((try dsimp only at h1); (repeat' first | (guard_hyp h1 : _ ∨ _; refine Or.elim h1 (fun h1 => ?_) (fun h1 => ?_)) | (guard_hyp h1 : _ ∧ _; have hx := h1.2; replace h1 := h1.1)) <;> first | contradiction | omega)))
            obtain ⟨t1095, ht1095⟩ : ∃ t, (Nd.times A mn mx).subs[0]? = some t := ⟨_, List.getElem?_eq_getElem (by rw [(Nd.times_rep hfA (by omega) (by omega) (by omega) (by omega))]; exact Nat.zero_lt_one)⟩
            obtain ⟨eb1095, eo1095, el1095, hea1095, hD1095, her1095, hn1095⟩ := h1094.at ht1095
            obtain ⟨sl1095, rfl, hts1095⟩ := hn1095.opn
            obtain ⟨a1095, cap1095, rfl, hlen1095, -⟩ := hts1095.get
            subst hea1095
            have h0t1095 : t1095 = A := by rw [(Nd.times_rep hfA (by omega) (by omega) (by omega) (by omega))] at ht1095; exact (Option.some.inj ht1095).symm
            have h1096 := ((((h921.ext hE923).ext hE926).ext hE932).but hB935 (by intro h1; first | omega | ((try dsimp only at h1); (repeat' first | (guard_hyp h1 : _ ∨ _; refine Or.elim h1 (fun h1 => ?_) (fun h1 => ?_)) | (guard_hyp h1 : _ ∧ _; have hx := h1.2; replace h1 := h1.1)) <;> first | contradiction | omega)))
            have h1097 := ((hn925.ext hE932).but hB935 (by intro h1; first | omega | ((try dsimp only at h1); (repeat' first | (guard_hyp h1 : _ ∨ _; refine Or.elim h1 (fun h1 => ?_) (fun h1 => ?_)) | (guard_hyp h1 : _ ∧ _; have hx := h1.2; replace h1 := h1.1)) <;> first | contradiction | omega)))
            refine WC.weaken (r' := [(1, .int .i64 mn), (2, .int .i64 mx), (6, .bool false), (12, .bool false), (7, .pointer (some ⟨b6, 0, none⟩)), (25, .bool false), (8, .pointer (some ⟨b928, 0, none⟩)), (50, .bool false), (66, .bool false), (75, .bool false), (10, .int .i64 (Nd.max3 mn mx 1))]) (subReg_cons rfl (subReg_cons rfl (subReg_cons rfl (subReg_cons rfl (subReg_cons rfl (subReg_cons rfl (subReg_cons rfl (subReg_cons rfl (subReg_cons rfl (subReg_cons rfl (subReg_cons rfl (subReg_nil _)))))))))))) ?_
            refine WC.draw 50 [82, 83, 84, 85, 86, 87, 88, 89, 90, 91, 92, 93, 94, 95, 96, 97, 98, 99, 100, 101, 102, 103, 104, 105, 106, 107, 108, 109, 110, 111, 112, 113, 114, 115, 116, 117, 118, 119, 120, 121, 122, 123, 124, 125, 126, 127, 128, 129, 130, 131] [pc (.agg #[.int .u8 (Nd.times A mn mx).kind, .int .u64 (Nd.times A mn mx).set.a, .int .u64 (Nd.times A mn mx).set.b, .int .u64 (Nd.times A mn mx).set.c, .int .u64 (Nd.times A mn mx).set.d, .int .i64 (Nd.times A mn mx).least, .int .i64 (Nd.times A mn mx).most, .slice (some ⟨eb1095, eo1095, none⟩) (Nd.times A mn mx).subs.length cap925]), pc (.bool true), pc (.bool true), pc (.pointer (some ⟨b928, 0, none⟩)), pc (.int .u8 ((Nd.times A mn mx).kind)), pc (.bool true), pc (.bool true), pc (.bool true), pc (.pointer (some ⟨b928, 5, none⟩)), pc (.int .i64 ((Nd.times A mn mx).least)), pc (.int .i64 mn), pc (.bool true), pc (.bool true), pc (.bool true), pc (.pointer (some ⟨b928, 6, none⟩)), pc (.int .i64 ((Nd.times A mn mx).most)), pc (.int .i64 mx), pc (.bool true), pc (.bool true), pc (.bool true), pc (.pointer (some ⟨b928, 7, none⟩)), pc (.slice (some ⟨eb1095, eo1095, none⟩) ((Nd.times A mn mx).subs.length) cap925), pc (.int .i64 ((Nd.times A mn mx).subs.length)), pc (.bool true), pc (.bool true), pc (.bool true), pc (.pointer (some ⟨b928, 7, none⟩)), pc (.slice (some ⟨eb1095, eo1095, none⟩) ((Nd.times A mn mx).subs.length) cap925), pc (.pointer (some ⟨eb1095, eo1095 + 0 * 8, none⟩)), pc (.agg #[.int .u8 t1095.kind, .int .u64 t1095.set.a, .int .u64 t1095.set.b, .int .u64 t1095.set.c, .int .u64 t1095.set.d, .int .i64 t1095.least, .int .i64 t1095.most, .slice a1095 t1095.subs.length cap1095]), pc (.agg #[.int .u8 A.kind, .int .u64 A.set.a, .int .u64 A.set.b, .int .u64 A.set.c, .int .u64 A.set.d, .int .i64 A.least, .int .i64 A.most, .slice a3 A.subs.length cap3]), pc (.bool true), pc (.bool true), pc (.bool true), pc (.agg #[.int .u8 (Nd.times A mn mx).kind, .int .u64 (Nd.times A mn mx).set.a, .int .u64 (Nd.times A mn mx).set.b, .int .u64 (Nd.times A mn mx).set.c, .int .u64 (Nd.times A mn mx).set.d, .int .i64 (Nd.times A mn mx).least, .int .i64 (Nd.times A mn mx).most, .slice (some ⟨eb1095, eo1095, none⟩) (Nd.times A mn mx).subs.length cap925]), pc (.int .i64 (Nd.posns (Nd.times A mn mx))), pc (.int .i64 (Nd.max3 mn mx 1)), pc (.agg #[.int .u8 A.kind, .int .u64 A.set.a, .int .u64 A.set.b, .int .u64 A.set.c, .int .u64 A.set.d, .int .i64 A.least, .int .i64 A.most, .slice a3 A.subs.length cap3]), pc (.int .i64 (Nd.posns A)), pc (.int .i64 (Nd.max3 mn mx 1 * (Nd.posns A))), pc (.bool true), pc (.bool true), pc (.bool true), pc (.agg #[.int .u8 (Nd.times A mn mx).kind, .int .u64 (Nd.times A mn mx).set.a, .int .u64 (Nd.times A mn mx).set.b, .int .u64 (Nd.times A mn mx).set.c, .int .u64 (Nd.times A mn mx).set.d, .int .i64 (Nd.times A mn mx).least, .int .i64 (Nd.times A mn mx).most, .slice (some ⟨eb1095, eo1095, none⟩) (Nd.times A mn mx).subs.length cap925]), pc (.int .i64 (Nd.sizes (Nd.times A mn mx))), pc (.agg #[.int .u8 A.kind, .int .u64 A.set.a, .int .u64 A.set.b, .int .u64 A.set.c, .int .u64 A.set.d, .int .i64 A.least, .int .i64 A.most, .slice a3 A.subs.length cap3]), pc (.int .i64 (Nd.sizes A)), pc (.int .i64 (1 + (Nd.sizes A))), pc (.bool true), pc (.bool true)] (by kernel_rfl) (by kernel_rfl) ⟨KW_pc _, KW_pc _, KW_pc _, KW_pc _, KW_pc _, KW_pc _, KW_pc _, KW_pc _, KW_pc _, KW_pc _, KW_pc _, KW_pc _, KW_pc _, KW_pc _, KW_pc _, KW_pc _, KW_pc _, KW_pc _, KW_pc _, KW_pc _, KW_pc _, KW_pc _, KW_pc _, KW_pc _, KW_pc _, KW_pc _, KW_pc _, KW_pc _, KW_pc _, KW_pc _, KW_pc _, KW_pc _, KW_pc _, KW_pc _, KW_pc _, KW_pc _, KW_pc _, KW_pc _, KW_pc _, KW_pc _, KW_pc _, KW_pc _, KW_pc _, KW_pc _, KW_pc _, KW_pc _, KW_pc _, KW_pc _, KW_pc _, KW_pc _, trivial⟩ rfl rfl rfl (StepsOn.cons ?_ (StepsOn.cons ?_ (StepsOn.cons ?_ (StepsOn.cons ?_ (StepsOn.cons ?_ (StepsOn.cons ?_ (StepsOn.cons ?_ (StepsOn.cons ?_ (StepsOn.cons ?_ (StepsOn.cons ?_ (StepsOn.cons ?_ (StepsOn.cons ?_ (StepsOn.cons ?_ (StepsOn.cons ?_ (StepsOn.cons ?_ (StepsOn.cons ?_ (StepsOn.cons ?_ (StepsOn.cons ?_ (StepsOn.cons ?_ (StepsOn.cons ?_ (StepsOn.cons ?_ (StepsOn.cons ?_ (StepsOn.cons ?_ (StepsOn.cons ?_ (StepsOn.cons ?_ (StepsOn.cons ?_ (StepsOn.cons ?_ (StepsOn.cons ?_ (StepsOn.cons ?_ (StepsOn.cons ?_ (StepsOn.cons ?_ (StepsOn.cons ?_ (StepsOn.cons ?_ (StepsOn.cons ?_ (StepsOn.cons ?_ (StepsOn.cons ?_ (StepsOn.cons ?_ (StepsOn.cons ?_ (StepsOn.cons ?_ (StepsOn.cons ?_ (StepsOn.cons ?_ (StepsOn.cons ?_ (StepsOn.cons ?_ (StepsOn.cons ?_ (StepsOn.cons ?_ (StepsOn.cons ?_ (StepsOn.cons ?_ (StepsOn.cons ?_ (StepsOn.cons ?_ (StepsOn.cons ?_ (StepsOn.nil _))))))))))))))))))))))))))))))))))))))))))))))))))) ?_
            · intro σ β w1 hE1 hbi hk
              have hz1 := hE1.size
              refine ⟨[], (agree_nil _), ?_⟩
              refine WL.load_box rfl rfl rfl (hR934.ext hE1) Ty.agg29 ?_
              refine WL.nil (fun a_ ha => ?_)
              exact ⟨_, β, ha, (Ext.refl _), BExt.refl _ _, hbi.ext (Ext.refl _), rfl⟩
            · intro σ β w1 hE1 hbi hk
              have hz1 := hE1.size
              obtain ⟨_, hv2298, rfl⟩ := hk 0 (by kernel_rfl) _ _ rfl rfl
              refine ⟨[(82, .agg #[.int .u8 (Nd.times A mn mx).kind, .int .u64 (Nd.times A mn mx).set.a, .int .u64 (Nd.times A mn mx).set.b, .int .u64 (Nd.times A mn mx).set.c, .int .u64 (Nd.times A mn mx).set.d, .int .i64 (Nd.times A mn mx).least, .int .i64 (Nd.times A mn mx).most, .slice (some ⟨eb1095, eo1095, none⟩) (Nd.times A mn mx).subs.length cap925])], (agree_cons (look_right rfl hv2298) (agree_nil _)), ?_⟩
              refine WL.call rfl rfl rfl Ty.ent12 (clean_ok _ _ _ _ (h1097.ext hE1)) ?_
              rintro _ w2300 ⟨he, hE2299⟩
              have hq : (Nd.clean (Nd.times A mn mx)) = true := (by rw [(Nd.times_rep hfA (by omega) (by omega) (by omega) (by omega))]; exact (Nd.rep_fine hmA (by omega) (by omega) (by omega) (by omega)).clean)
              rw [hq] at he
              subst he
              clear hq
              have hzhE2299 := hE2299.size
              refine ⟨_, rfl, ?_⟩
              refine WL.nil (fun a_ ha => ?_)
              exact ⟨_, β, ha, hE2299, BExt.refl _ _, hbi.ext hE2299, rfl⟩
            · intro σ β w1 hE1 hbi hk
              have hz1 := hE1.size
              obtain ⟨_, hv2398, rfl⟩ := hk 1 (by kernel_rfl) _ _ rfl rfl
              refine ⟨[(83, .bool true)], (agree_cons (look_right rfl hv2398) (agree_nil _)), ?_⟩
              refine WL.move rfl rfl rfl ?_
              refine WL.nil (fun a_ ha => ?_)
              exact ⟨_, β, ha, (Ext.refl _), BExt.refl _ _, hbi.ext (Ext.refl _), rfl⟩
            · intro σ β w1 hE1 hbi hk
              have hz1 := hE1.size
              obtain ⟨_, hv2498, rfl⟩ := hk 2 (by kernel_rfl) _ _ rfl rfl
              refine ⟨[(84, .bool true)], (agree_cons (look_right rfl hv2498) (agree_nil _)), ?_⟩
              refine WL.fieldAddr rfl rfl Ty.fld29_0 rfl ?_
              refine WL.nil (fun a_ ha => ?_)
              exact ⟨_, β, ha, (Ext.refl _), BExt.refl _ _, hbi.ext (Ext.refl _), rfl⟩
            · intro σ β w1 hE1 hbi hk
              have hz1 := hE1.size
              obtain ⟨_, hv2598, rfl⟩ := hk 2 (by kernel_rfl) _ _ rfl rfl
              obtain ⟨_, hv2599, rfl⟩ := hk 3 (by kernel_rfl) _ _ rfl rfl
              refine ⟨[(84, .bool true), (85, .pointer (some ⟨b928, 0, none⟩))], (agree_cons (look_right rfl hv2598) (agree_cons (look_right rfl hv2599) (agree_nil _))), ?_⟩
              refine WL.load_fld rfl rfl Ty.flat5 rfl (hR934.ext hE1) rfl ?_
              refine WL.nil (fun a_ ha => ?_)
              exact ⟨_, β, ha, (Ext.refl _), BExt.refl _ _, hbi.ext (Ext.refl _), rfl⟩
            · intro σ β w1 hE1 hbi hk
              have hz1 := hE1.size
              obtain ⟨_, hv2698, rfl⟩ := hk 2 (by kernel_rfl) _ _ rfl rfl
              obtain ⟨_, hv2699, rfl⟩ := hk 4 (by kernel_rfl) _ _ rfl rfl
              refine ⟨[(84, .bool true), (86, .int .u8 ((Nd.times A mn mx).kind))], (agree_cons (look_right rfl hv2698) (agree_cons (look_right rfl hv2699) (agree_nil _))), ?_⟩
              refine WL.eql (b := true) rfl rfl rfl rfl (by rw [(Nd.times_rep hfA (by omega) (by omega) (by omega) (by omega))]; rfl) ?_
              refine WL.nil (fun a_ ha => ?_)
              exact ⟨_, β, ha, (Ext.refl _), BExt.refl _ _, hbi.ext (Ext.refl _), rfl⟩
            · intro σ β w1 hE1 hbi hk
              have hz1 := hE1.size
              obtain ⟨_, hv2798, rfl⟩ := hk 2 (by kernel_rfl) _ _ rfl rfl
              obtain ⟨_, hv2799, rfl⟩ := hk 5 (by kernel_rfl) _ _ rfl rfl
              refine ⟨[(84, .bool true), (87, .bool true)], (agree_cons (look_right rfl hv2798) (agree_cons (look_right rfl hv2799) (agree_nil _))), ?_⟩
              refine WL.pick_t rfl rfl rfl rfl ?_
              refine WL.nil (fun a_ ha => ?_)
              exact ⟨_, β, ha, (Ext.refl _), BExt.refl _ _, hbi.ext (Ext.refl _), rfl⟩
            · intro σ β w1 hE1 hbi hk
              have hz1 := hE1.size
              obtain ⟨_, hv2898, rfl⟩ := hk 6 (by kernel_rfl) _ _ rfl rfl
              refine ⟨[(88, .bool true)], (agree_cons (look_right rfl hv2898) (agree_nil _)), ?_⟩
              refine WL.move rfl rfl rfl ?_
              refine WL.nil (fun a_ ha => ?_)
              exact ⟨_, β, ha, (Ext.refl _), BExt.refl _ _, hbi.ext (Ext.refl _), rfl⟩
            · intro σ β w1 hE1 hbi hk
              have hz1 := hE1.size
              obtain ⟨_, hv2998, rfl⟩ := hk 7 (by kernel_rfl) _ _ rfl rfl
              refine ⟨[(89, .bool true)], (agree_cons (look_right rfl hv2998) (agree_nil _)), ?_⟩
              refine WL.fieldAddr rfl rfl Ty.fld29_2 rfl ?_
              refine WL.nil (fun a_ ha => ?_)
              exact ⟨_, β, ha, (Ext.refl _), BExt.refl _ _, hbi.ext (Ext.refl _), rfl⟩
            · intro σ β w1 hE1 hbi hk
              have hz1 := hE1.size
              obtain ⟨_, hv3098, rfl⟩ := hk 7 (by kernel_rfl) _ _ rfl rfl
              obtain ⟨_, hv3099, rfl⟩ := hk 8 (by kernel_rfl) _ _ rfl rfl
              refine ⟨[(89, .bool true), (90, .pointer (some ⟨b928, 5, none⟩))], (agree_cons (look_right rfl hv3098) (agree_cons (look_right rfl hv3099) (agree_nil _))), ?_⟩
              refine WL.load_fld rfl rfl Ty.flat3 rfl (hR934.ext hE1) rfl ?_
              refine WL.nil (fun a_ ha => ?_)
              exact ⟨_, β, ha, (Ext.refl _), BExt.refl _ _, hbi.ext (Ext.refl _), rfl⟩
            · intro σ β w1 hE1 hbi hk
              have hz1 := hE1.size
              obtain ⟨_, hv3198, rfl⟩ := hk 7 (by kernel_rfl) _ _ rfl rfl
              refine ⟨[(89, .bool true)], (agree_cons (look_right rfl hv3198) (agree_nil _)), ?_⟩
              refine WL.move rfl rfl rfl ?_
              refine WL.nil (fun a_ ha => ?_)
              exact ⟨_, β, ha, (Ext.refl _), BExt.refl _ _, hbi.ext (Ext.refl _), rfl⟩
            · intro σ β w1 hE1 hbi hk
              have hz1 := hE1.size
              obtain ⟨_, hv3298, rfl⟩ := hk 7 (by kernel_rfl) _ _ rfl rfl
              obtain ⟨_, hv3299, rfl⟩ := hk 9 (by kernel_rfl) _ _ rfl rfl
              obtain ⟨_, hv3300, rfl⟩ := hk 10 (by kernel_rfl) _ _ rfl rfl
              refine ⟨[(89, .bool true), (91, .int .i64 ((Nd.times A mn mx).least)), (92, .int .i64 mn)], (agree_cons (look_right rfl hv3298) (agree_cons (look_right rfl hv3299) (agree_cons (look_right rfl hv3300) (agree_nil _)))), ?_⟩
              refine WL.eql (b := true) rfl rfl rfl rfl (by rw [(Nd.times_rep hfA (by omega) (by omega) (by omega) (by omega))]; exact beq_self_eq_true mn) ?_
              refine WL.nil (fun a_ ha => ?_)
              exact ⟨_, β, ha, (Ext.refl _), BExt.refl _ _, hbi.ext (Ext.refl _), rfl⟩
            · intro σ β w1 hE1 hbi hk
              have hz1 := hE1.size
              obtain ⟨_, hv3398, rfl⟩ := hk 7 (by kernel_rfl) _ _ rfl rfl
              obtain ⟨_, hv3399, rfl⟩ := hk 11 (by kernel_rfl) _ _ rfl rfl
              refine ⟨[(89, .bool true), (93, .bool true)], (agree_cons (look_right rfl hv3398) (agree_cons (look_right rfl hv3399) (agree_nil _))), ?_⟩
              refine WL.pick_t rfl rfl rfl rfl ?_
              refine WL.nil (fun a_ ha => ?_)
              exact ⟨_, β, ha, (Ext.refl _), BExt.refl _ _, hbi.ext (Ext.refl _), rfl⟩
            · intro σ β w1 hE1 hbi hk
              have hz1 := hE1.size
              obtain ⟨_, hv3498, rfl⟩ := hk 12 (by kernel_rfl) _ _ rfl rfl
              refine ⟨[(94, .bool true)], (agree_cons (look_right rfl hv3498) (agree_nil _)), ?_⟩
              refine WL.move rfl rfl rfl ?_
              refine WL.nil (fun a_ ha => ?_)
              exact ⟨_, β, ha, (Ext.refl _), BExt.refl _ _, hbi.ext (Ext.refl _), rfl⟩
            · intro σ β w1 hE1 hbi hk
              have hz1 := hE1.size
              obtain ⟨_, hv3598, rfl⟩ := hk 13 (by kernel_rfl) _ _ rfl rfl
              refine ⟨[(95, .bool true)], (agree_cons (look_right rfl hv3598) (agree_nil _)), ?_⟩
              refine WL.fieldAddr rfl rfl Ty.fld29_3 rfl ?_
              refine WL.nil (fun a_ ha => ?_)
              exact ⟨_, β, ha, (Ext.refl _), BExt.refl _ _, hbi.ext (Ext.refl _), rfl⟩
            · intro σ β w1 hE1 hbi hk
              have hz1 := hE1.size
              obtain ⟨_, hv3698, rfl⟩ := hk 13 (by kernel_rfl) _ _ rfl rfl
              obtain ⟨_, hv3699, rfl⟩ := hk 14 (by kernel_rfl) _ _ rfl rfl
              refine ⟨[(95, .bool true), (96, .pointer (some ⟨b928, 6, none⟩))], (agree_cons (look_right rfl hv3698) (agree_cons (look_right rfl hv3699) (agree_nil _))), ?_⟩
              refine WL.load_fld rfl rfl Ty.flat3 rfl (hR934.ext hE1) rfl ?_
              refine WL.nil (fun a_ ha => ?_)
              exact ⟨_, β, ha, (Ext.refl _), BExt.refl _ _, hbi.ext (Ext.refl _), rfl⟩
            · intro σ β w1 hE1 hbi hk
              have hz1 := hE1.size
              obtain ⟨_, hv3798, rfl⟩ := hk 13 (by kernel_rfl) _ _ rfl rfl
              refine ⟨[(95, .bool true)], (agree_cons (look_right rfl hv3798) (agree_nil _)), ?_⟩
              refine WL.move rfl rfl rfl ?_
              refine WL.nil (fun a_ ha => ?_)
              exact ⟨_, β, ha, (Ext.refl _), BExt.refl _ _, hbi.ext (Ext.refl _), rfl⟩
            · intro σ β w1 hE1 hbi hk
              have hz1 := hE1.size
              obtain ⟨_, hv3898, rfl⟩ := hk 13 (by kernel_rfl) _ _ rfl rfl
              obtain ⟨_, hv3899, rfl⟩ := hk 15 (by kernel_rfl) _ _ rfl rfl
              obtain ⟨_, hv3900, rfl⟩ := hk 16 (by kernel_rfl) _ _ rfl rfl
              refine ⟨[(95, .bool true), (97, .int .i64 ((Nd.times A mn mx).most)), (98, .int .i64 mx)], (agree_cons (look_right rfl hv3898) (agree_cons (look_right rfl hv3899) (agree_cons (look_right rfl hv3900) (agree_nil _)))), ?_⟩
              refine WL.eql (b := true) rfl rfl rfl rfl (by rw [(Nd.times_rep hfA (by omega) (by omega) (by omega) (by omega))]; exact beq_self_eq_true mx) ?_
              refine WL.nil (fun a_ ha => ?_)
              exact ⟨_, β, ha, (Ext.refl _), BExt.refl _ _, hbi.ext (Ext.refl _), rfl⟩
            · intro σ β w1 hE1 hbi hk
              have hz1 := hE1.size
              obtain ⟨_, hv3998, rfl⟩ := hk 13 (by kernel_rfl) _ _ rfl rfl
              obtain ⟨_, hv3999, rfl⟩ := hk 17 (by kernel_rfl) _ _ rfl rfl
              refine ⟨[(95, .bool true), (99, .bool true)], (agree_cons (look_right rfl hv3998) (agree_cons (look_right rfl hv3999) (agree_nil _))), ?_⟩
              refine WL.pick_t rfl rfl rfl rfl ?_
              refine WL.nil (fun a_ ha => ?_)
              exact ⟨_, β, ha, (Ext.refl _), BExt.refl _ _, hbi.ext (Ext.refl _), rfl⟩
            · intro σ β w1 hE1 hbi hk
              have hz1 := hE1.size
              obtain ⟨_, hv4098, rfl⟩ := hk 18 (by kernel_rfl) _ _ rfl rfl
              refine ⟨[(100, .bool true)], (agree_cons (look_right rfl hv4098) (agree_nil _)), ?_⟩
              refine WL.move rfl rfl rfl ?_
              refine WL.nil (fun a_ ha => ?_)
              exact ⟨_, β, ha, (Ext.refl _), BExt.refl _ _, hbi.ext (Ext.refl _), rfl⟩
            · intro σ β w1 hE1 hbi hk
              have hz1 := hE1.size
              obtain ⟨_, hv4198, rfl⟩ := hk 19 (by kernel_rfl) _ _ rfl rfl
              refine ⟨[(101, .bool true)], (agree_cons (look_right rfl hv4198) (agree_nil _)), ?_⟩
              refine WL.fieldAddr rfl rfl Ty.fld29_4 rfl ?_
              refine WL.nil (fun a_ ha => ?_)
              exact ⟨_, β, ha, (Ext.refl _), BExt.refl _ _, hbi.ext (Ext.refl _), rfl⟩
            · intro σ β w1 hE1 hbi hk
              have hz1 := hE1.size
              obtain ⟨_, hv4298, rfl⟩ := hk 19 (by kernel_rfl) _ _ rfl rfl
              obtain ⟨_, hv4299, rfl⟩ := hk 20 (by kernel_rfl) _ _ rfl rfl
              refine ⟨[(101, .bool true), (102, .pointer (some ⟨b928, 7, none⟩))], (agree_cons (look_right rfl hv4298) (agree_cons (look_right rfl hv4299) (agree_nil _))), ?_⟩
              refine WL.load_fld rfl rfl Ty.flat27 rfl (hR934.ext hE1) rfl ?_
              refine WL.nil (fun a_ ha => ?_)
              exact ⟨_, β, ha, (Ext.refl _), BExt.refl _ _, hbi.ext (Ext.refl _), rfl⟩
            · intro σ β w1 hE1 hbi hk
              have hz1 := hE1.size
              obtain ⟨_, hv4398, rfl⟩ := hk 19 (by kernel_rfl) _ _ rfl rfl
              obtain ⟨_, hv4399, rfl⟩ := hk 21 (by kernel_rfl) _ _ rfl rfl
              refine ⟨[(101, .bool true), (103, .slice (some ⟨eb1095, eo1095, none⟩) ((Nd.times A mn mx).subs.length) cap925)], (agree_cons (look_right rfl hv4398) (agree_cons (look_right rfl hv4399) (agree_nil _))), ?_⟩
              refine WL.len rfl rfl Try.underlying27 rfl ?_
              refine WL.nil (fun a_ ha => ?_)
              exact ⟨_, β, ha, (Ext.refl _), BExt.refl _ _, hbi.ext (Ext.refl _), rfl⟩
            · intro σ β w1 hE1 hbi hk
              have hz1 := hE1.size
              obtain ⟨_, hv4498, rfl⟩ := hk 19 (by kernel_rfl) _ _ rfl rfl
              obtain ⟨_, hv4499, rfl⟩ := hk 22 (by kernel_rfl) _ _ rfl rfl
              refine ⟨[(101, .bool true), (104, .int .i64 ((Nd.times A mn mx).subs.length))], (agree_cons (look_right rfl hv4498) (agree_cons (look_right rfl hv4499) (agree_nil _))), ?_⟩
              refine WL.eql (b := true) rfl rfl rfl rfl (by rw [(Nd.times_rep hfA (by omega) (by omega) (by omega) (by omega))]; rfl) ?_
              refine WL.nil (fun a_ ha => ?_)
              exact ⟨_, β, ha, (Ext.refl _), BExt.refl _ _, hbi.ext (Ext.refl _), rfl⟩
            · intro σ β w1 hE1 hbi hk
              have hz1 := hE1.size
              obtain ⟨_, hv4598, rfl⟩ := hk 19 (by kernel_rfl) _ _ rfl rfl
              obtain ⟨_, hv4599, rfl⟩ := hk 23 (by kernel_rfl) _ _ rfl rfl
              refine ⟨[(101, .bool true), (105, .bool true)], (agree_cons (look_right rfl hv4598) (agree_cons (look_right rfl hv4599) (agree_nil _))), ?_⟩
              refine WL.pick_t rfl rfl rfl rfl ?_
              refine WL.nil (fun a_ ha => ?_)
              exact ⟨_, β, ha, (Ext.refl _), BExt.refl _ _, hbi.ext (Ext.refl _), rfl⟩
            · intro σ β w1 hE1 hbi hk
              have hz1 := hE1.size
              obtain ⟨_, hv4698, rfl⟩ := hk 24 (by kernel_rfl) _ _ rfl rfl
              refine ⟨[(106, .bool true)], (agree_cons (look_right rfl hv4698) (agree_nil _)), ?_⟩
              refine WL.move rfl rfl rfl ?_
              refine WL.nil (fun a_ ha => ?_)
              exact ⟨_, β, ha, (Ext.refl _), BExt.refl _ _, hbi.ext (Ext.refl _), rfl⟩
            · intro σ β w1 hE1 hbi hk
              have hz1 := hE1.size
              obtain ⟨_, hv4798, rfl⟩ := hk 25 (by kernel_rfl) _ _ rfl rfl
              refine ⟨[(107, .bool true)], (agree_cons (look_right rfl hv4798) (agree_nil _)), ?_⟩
              refine WL.fieldAddr rfl rfl Ty.fld29_4 rfl ?_
              refine WL.nil (fun a_ ha => ?_)
              exact ⟨_, β, ha, (Ext.refl _), BExt.refl _ _, hbi.ext (Ext.refl _), rfl⟩
            · intro σ β w1 hE1 hbi hk
              have hz1 := hE1.size
              obtain ⟨_, hv4898, rfl⟩ := hk 25 (by kernel_rfl) _ _ rfl rfl
              obtain ⟨_, hv4899, rfl⟩ := hk 26 (by kernel_rfl) _ _ rfl rfl
              refine ⟨[(107, .bool true), (108, .pointer (some ⟨b928, 7, none⟩))], (agree_cons (look_right rfl hv4898) (agree_cons (look_right rfl hv4899) (agree_nil _))), ?_⟩
              refine WL.load_fld rfl rfl Ty.flat27 rfl (hR934.ext hE1) rfl ?_
              refine WL.nil (fun a_ ha => ?_)
              exact ⟨_, β, ha, (Ext.refl _), BExt.refl _ _, hbi.ext (Ext.refl _), rfl⟩
            · intro σ β w1 hE1 hbi hk
              have hz1 := hE1.size
              obtain ⟨_, hv4998, rfl⟩ := hk 25 (by kernel_rfl) _ _ rfl rfl
              obtain ⟨_, hv4999, rfl⟩ := hk 27 (by kernel_rfl) _ _ rfl rfl
              refine ⟨[(107, .bool true), (109, .slice (some ⟨eb1095, eo1095, none⟩) ((Nd.times A mn mx).subs.length) cap925)], (agree_cons (look_right rfl hv4998) (agree_cons (look_right rfl hv4999) (agree_nil _))), ?_⟩
              refine WL.indexAddr (i := 0) rfl rfl Ty.slice27 rfl rfl rfl (by rw [(Nd.times_rep hfA (by omega) (by omega) (by omega) (by omega))]; exact Nat.zero_lt_one) ?_
              refine WL.nil (fun a_ ha => ?_)
              exact ⟨_, β, ha, (Ext.refl _), BExt.refl _ _, hbi.ext (Ext.refl _), rfl⟩
            · intro σ β w1 hE1 hbi hk
              have hz1 := hE1.size
              obtain ⟨_, hv5098, rfl⟩ := hk 25 (by kernel_rfl) _ _ rfl rfl
              obtain ⟨_, hv5099, rfl⟩ := hk 28 (by kernel_rfl) _ _ rfl rfl
              refine ⟨[(107, .bool true), (110, .pointer (some ⟨eb1095, eo1095 + 0 * 8, none⟩))], (agree_cons (look_right rfl hv5098) (agree_cons (look_right rfl hv5099) (agree_nil _))), ?_⟩
              refine WL.load_agg (l := tcells t1095 (.slice a1095 t1095.subs.length cap1095)) rfl rfl Ty.agg29 rfl (her1095.ext hE1) ?_
              refine WL.nil (fun a_ ha => ?_)
              exact ⟨_, β, ha, (Ext.refl _), BExt.refl _ _, hbi.ext (Ext.refl _), rfl⟩
            · intro σ β w1 hE1 hbi hk
              have hz1 := hE1.size
              obtain ⟨_, hv5198, rfl⟩ := hk 25 (by kernel_rfl) _ _ rfl rfl
              refine ⟨[(107, .bool true)], (agree_cons (look_right rfl hv5198) (agree_nil _)), ?_⟩
              refine WL.load_box rfl rfl rfl (h1090.ext hE1) Ty.agg29 ?_
              refine WL.nil (fun a_ ha => ?_)
              exact ⟨_, β, ha, (Ext.refl _), BExt.refl _ _, hbi.ext (Ext.refl _), rfl⟩
            · intro σ β w1 hE1 hbi hk
              have hz1 := hE1.size
              obtain ⟨_, hv5298, rfl⟩ := hk 25 (by kernel_rfl) _ _ rfl rfl
              obtain ⟨_, hv5299, rfl⟩ := hk 29 (by kernel_rfl) _ _ rfl rfl
              obtain ⟨_, hv5300, rfl⟩ := hk 30 (by kernel_rfl) _ _ rfl rfl
              refine ⟨[(107, .bool true), (111, .agg #[.int .u8 t1095.kind, .int .u64 t1095.set.a, .int .u64 t1095.set.b, .int .u64 t1095.set.c, .int .u64 t1095.set.d, .int .i64 t1095.least, .int .i64 t1095.most, .slice a1095 t1095.subs.length cap1095]), (112, .agg #[.int .u8 A.kind, .int .u64 A.set.a, .int .u64 A.set.b, .int .u64 A.set.c, .int .u64 A.set.d, .int .i64 A.least, .int .i64 A.most, .slice a3 A.subs.length cap3])], (agree_cons (look_right rfl hv5298) (agree_cons (look_right rfl hv5299) (agree_cons (look_right rfl hv5300) (agree_nil _)))), ?_⟩
              refine WL.call rfl rfl rfl Ty.ent14 (Same_ok _ _ _ _ _ t1095 A (hn1095.ext hE1) (h1096.ext hE1)) ?_
              rintro _ w5302 ⟨he, hE5301⟩
              have hq : (Nd.light t1095 && Nd.light A && Nd.same t1095 A) = true := (by rw [h0t1095]; exact Nd.Same_self hfA.light)
              rw [hq] at he
              subst he
              clear hq
              have hzhE5301 := hE5301.size
              refine ⟨_, rfl, ?_⟩
              refine WL.nil (fun a_ ha => ?_)
              exact ⟨_, β, ha, hE5301, BExt.refl _ _, hbi.ext hE5301, rfl⟩
            · intro σ β w1 hE1 hbi hk
              have hz1 := hE1.size
              obtain ⟨_, hv5398, rfl⟩ := hk 25 (by kernel_rfl) _ _ rfl rfl
              obtain ⟨_, hv5399, rfl⟩ := hk 31 (by kernel_rfl) _ _ rfl rfl
              refine ⟨[(107, .bool true), (113, .bool true)], (agree_cons (look_right rfl hv5398) (agree_cons (look_right rfl hv5399) (agree_nil _))), ?_⟩
              refine WL.pick_t rfl rfl rfl rfl ?_
              refine WL.nil (fun a_ ha => ?_)
              exact ⟨_, β, ha, (Ext.refl _), BExt.refl _ _, hbi.ext (Ext.refl _), rfl⟩
            · intro σ β w1 hE1 hbi hk
              have hz1 := hE1.size
              obtain ⟨_, hv5498, rfl⟩ := hk 32 (by kernel_rfl) _ _ rfl rfl
              refine ⟨[(114, .bool true)], (agree_cons (look_right rfl hv5498) (agree_nil _)), ?_⟩
              refine WL.move rfl rfl rfl ?_
              refine WL.nil (fun a_ ha => ?_)
              exact ⟨_, β, ha, (Ext.refl _), BExt.refl _ _, hbi.ext (Ext.refl _), rfl⟩
            · intro σ β w1 hE1 hbi hk
              have hz1 := hE1.size
              obtain ⟨_, hv5598, rfl⟩ := hk 33 (by kernel_rfl) _ _ rfl rfl
              refine ⟨[(115, .bool true)], (agree_cons (look_right rfl hv5598) (agree_nil _)), ?_⟩
              refine WL.load_box rfl rfl rfl (hR934.ext hE1) Ty.agg29 ?_
              refine WL.nil (fun a_ ha => ?_)
              exact ⟨_, β, ha, (Ext.refl _), BExt.refl _ _, hbi.ext (Ext.refl _), rfl⟩
            · intro σ β w1 hE1 hbi hk
              have hz1 := hE1.size
              obtain ⟨_, hv5698, rfl⟩ := hk 33 (by kernel_rfl) _ _ rfl rfl
              obtain ⟨_, hv5699, rfl⟩ := hk 34 (by kernel_rfl) _ _ rfl rfl
              refine ⟨[(115, .bool true), (116, .agg #[.int .u8 (Nd.times A mn mx).kind, .int .u64 (Nd.times A mn mx).set.a, .int .u64 (Nd.times A mn mx).set.b, .int .u64 (Nd.times A mn mx).set.c, .int .u64 (Nd.times A mn mx).set.d, .int .i64 (Nd.times A mn mx).least, .int .i64 (Nd.times A mn mx).most, .slice (some ⟨eb1095, eo1095, none⟩) (Nd.times A mn mx).subs.length cap925])], (agree_cons (look_right rfl hv5698) (agree_cons (look_right rfl hv5699) (agree_nil _))), ?_⟩
              refine WL.call rfl rfl rfl Ty.ent15 (Positions_ok _ _ _ _ (h1097.ext hE1)) ?_
              rintro _ w5701 ⟨rfl, hE5700⟩
              have hzhE5700 := hE5700.size
              refine ⟨_, rfl, ?_⟩
              refine WL.nil (fun a_ ha => ?_)
              exact ⟨_, β, ha, hE5700, BExt.refl _ _, hbi.ext hE5700, rfl⟩
            · intro σ β w1 hE1 hbi hk
              have hz1 := hE1.size
              obtain ⟨_, hv5798, rfl⟩ := hk 33 (by kernel_rfl) _ _ rfl rfl
              refine ⟨[(115, .bool true)], (agree_cons (look_right rfl hv5798) (agree_nil _)), ?_⟩
              refine WL.move rfl rfl rfl ?_
              refine WL.nil (fun a_ ha => ?_)
              exact ⟨_, β, ha, (Ext.refl _), BExt.refl _ _, hbi.ext (Ext.refl _), rfl⟩
            · intro σ β w1 hE1 hbi hk
              have hz1 := hE1.size
              obtain ⟨_, hv5898, rfl⟩ := hk 33 (by kernel_rfl) _ _ rfl rfl
              refine ⟨[(115, .bool true)], (agree_cons (look_right rfl hv5898) (agree_nil _)), ?_⟩
              refine WL.load_box rfl rfl rfl (h1090.ext hE1) Ty.agg29 ?_
              refine WL.nil (fun a_ ha => ?_)
              exact ⟨_, β, ha, (Ext.refl _), BExt.refl _ _, hbi.ext (Ext.refl _), rfl⟩
            · intro σ β w1 hE1 hbi hk
              have hz1 := hE1.size
              obtain ⟨_, hv5998, rfl⟩ := hk 33 (by kernel_rfl) _ _ rfl rfl
              obtain ⟨_, hv5999, rfl⟩ := hk 37 (by kernel_rfl) _ _ rfl rfl
              refine ⟨[(115, .bool true), (119, .agg #[.int .u8 A.kind, .int .u64 A.set.a, .int .u64 A.set.b, .int .u64 A.set.c, .int .u64 A.set.d, .int .i64 A.least, .int .i64 A.most, .slice a3 A.subs.length cap3])], (agree_cons (look_right rfl hv5998) (agree_cons (look_right rfl hv5999) (agree_nil _))), ?_⟩
              refine WL.call rfl rfl rfl Ty.ent15 (Positions_ok _ _ _ _ (h1096.ext hE1)) ?_
              rintro _ w6001 ⟨rfl, hE6000⟩
              have hzhE6000 := hE6000.size
              refine ⟨_, rfl, ?_⟩
              refine WL.nil (fun a_ ha => ?_)
              exact ⟨_, β, ha, hE6000, BExt.refl _ _, hbi.ext hE6000, rfl⟩
            · intro σ β w1 hE1 hbi hk
              have hz1 := hE1.size
              obtain ⟨_, hv6098, rfl⟩ := hk 33 (by kernel_rfl) _ _ rfl rfl
              obtain ⟨_, hv6099, rfl⟩ := hk 36 (by kernel_rfl) _ _ rfl rfl
              obtain ⟨_, hv6100, rfl⟩ := hk 38 (by kernel_rfl) _ _ rfl rfl
              refine ⟨[(115, .bool true), (118, .int .i64 (Nd.max3 mn mx 1)), (120, .int .i64 (Nd.posns A))], (agree_cons (look_right rfl hv6098) (agree_cons (look_right rfl hv6099) (agree_cons (look_right rfl hv6100) (agree_nil _)))), ?_⟩
              refine WL.mul (v := Nd.max3 mn mx 1 * (Nd.posns A)) rfl rfl rfl rfl (IntWalk.i64_in _ (by have h1 := Nd.tms_eq (mn := mn) (mx := mx) (by omega) (by omega); have := Nd.mul_le16 h1.2.1 h1.2.2 hpA.1 hpA.2; omega)) ?_
              refine WL.nil (fun a_ ha => ?_)
              exact ⟨_, β, ha, (Ext.refl _), BExt.refl _ _, hbi.ext (Ext.refl _), rfl⟩
            · intro σ β w1 hE1 hbi hk
              have hz1 := hE1.size
              obtain ⟨_, hv6198, rfl⟩ := hk 33 (by kernel_rfl) _ _ rfl rfl
              obtain ⟨_, hv6199, rfl⟩ := hk 35 (by kernel_rfl) _ _ rfl rfl
              obtain ⟨_, hv6200, rfl⟩ := hk 39 (by kernel_rfl) _ _ rfl rfl
              refine ⟨[(115, .bool true), (117, .int .i64 (Nd.posns (Nd.times A mn mx))), (121, .int .i64 (Nd.max3 mn mx 1 * (Nd.posns A)))], (agree_cons (look_right rfl hv6198) (agree_cons (look_right rfl hv6199) (agree_cons (look_right rfl hv6200) (agree_nil _)))), ?_⟩
              refine WL.eql (b := true) rfl rfl rfl rfl (by rw [(Nd.times_rep hfA (by omega) (by omega) (by omega) (by omega)), Nd.rep_posns hmA (by omega) (by omega) (by omega) (by omega)]; exact beq_self_eq_true _) ?_
              refine WL.nil (fun a_ ha => ?_)
              exact ⟨_, β, ha, (Ext.refl _), BExt.refl _ _, hbi.ext (Ext.refl _), rfl⟩
            · intro σ β w1 hE1 hbi hk
              have hz1 := hE1.size
              obtain ⟨_, hv6298, rfl⟩ := hk 33 (by kernel_rfl) _ _ rfl rfl
              obtain ⟨_, hv6299, rfl⟩ := hk 40 (by kernel_rfl) _ _ rfl rfl
              refine ⟨[(115, .bool true), (122, .bool true)], (agree_cons (look_right rfl hv6298) (agree_cons (look_right rfl hv6299) (agree_nil _))), ?_⟩
              refine WL.pick_t rfl rfl rfl rfl ?_
              refine WL.nil (fun a_ ha => ?_)
              exact ⟨_, β, ha, (Ext.refl _), BExt.refl _ _, hbi.ext (Ext.refl _), rfl⟩
            · intro σ β w1 hE1 hbi hk
              have hz1 := hE1.size
              obtain ⟨_, hv6398, rfl⟩ := hk 41 (by kernel_rfl) _ _ rfl rfl
              refine ⟨[(123, .bool true)], (agree_cons (look_right rfl hv6398) (agree_nil _)), ?_⟩
              refine WL.move rfl rfl rfl ?_
              refine WL.nil (fun a_ ha => ?_)
              exact ⟨_, β, ha, (Ext.refl _), BExt.refl _ _, hbi.ext (Ext.refl _), rfl⟩
            · intro σ β w1 hE1 hbi hk
              have hz1 := hE1.size
              obtain ⟨_, hv6498, rfl⟩ := hk 42 (by kernel_rfl) _ _ rfl rfl
              refine ⟨[(124, .bool true)], (agree_cons (look_right rfl hv6498) (agree_nil _)), ?_⟩
              refine WL.load_box rfl rfl rfl (hR934.ext hE1) Ty.agg29 ?_
              refine WL.nil (fun a_ ha => ?_)
              exact ⟨_, β, ha, (Ext.refl _), BExt.refl _ _, hbi.ext (Ext.refl _), rfl⟩
            · intro σ β w1 hE1 hbi hk
              have hz1 := hE1.size
              obtain ⟨_, hv6598, rfl⟩ := hk 42 (by kernel_rfl) _ _ rfl rfl
              obtain ⟨_, hv6599, rfl⟩ := hk 43 (by kernel_rfl) _ _ rfl rfl
              refine ⟨[(124, .bool true), (125, .agg #[.int .u8 (Nd.times A mn mx).kind, .int .u64 (Nd.times A mn mx).set.a, .int .u64 (Nd.times A mn mx).set.b, .int .u64 (Nd.times A mn mx).set.c, .int .u64 (Nd.times A mn mx).set.d, .int .i64 (Nd.times A mn mx).least, .int .i64 (Nd.times A mn mx).most, .slice (some ⟨eb1095, eo1095, none⟩) (Nd.times A mn mx).subs.length cap925])], (agree_cons (look_right rfl hv6598) (agree_cons (look_right rfl hv6599) (agree_nil _))), ?_⟩
              refine WL.call rfl rfl rfl Ty.ent16 (size_ok _ _ _ _ (h1097.ext hE1)) ?_
              rintro _ w6601 ⟨rfl, hE6600⟩
              have hzhE6600 := hE6600.size
              refine ⟨_, rfl, ?_⟩
              refine WL.nil (fun a_ ha => ?_)
              exact ⟨_, β, ha, hE6600, BExt.refl _ _, hbi.ext hE6600, rfl⟩
            · intro σ β w1 hE1 hbi hk
              have hz1 := hE1.size
              obtain ⟨_, hv6698, rfl⟩ := hk 42 (by kernel_rfl) _ _ rfl rfl
              refine ⟨[(124, .bool true)], (agree_cons (look_right rfl hv6698) (agree_nil _)), ?_⟩
              refine WL.load_box rfl rfl rfl (h1090.ext hE1) Ty.agg29 ?_
              refine WL.nil (fun a_ ha => ?_)
              exact ⟨_, β, ha, (Ext.refl _), BExt.refl _ _, hbi.ext (Ext.refl _), rfl⟩
            · intro σ β w1 hE1 hbi hk
              have hz1 := hE1.size
              obtain ⟨_, hv6798, rfl⟩ := hk 42 (by kernel_rfl) _ _ rfl rfl
              obtain ⟨_, hv6799, rfl⟩ := hk 45 (by kernel_rfl) _ _ rfl rfl
              refine ⟨[(124, .bool true), (127, .agg #[.int .u8 A.kind, .int .u64 A.set.a, .int .u64 A.set.b, .int .u64 A.set.c, .int .u64 A.set.d, .int .i64 A.least, .int .i64 A.most, .slice a3 A.subs.length cap3])], (agree_cons (look_right rfl hv6798) (agree_cons (look_right rfl hv6799) (agree_nil _))), ?_⟩
              refine WL.call rfl rfl rfl Ty.ent16 (size_ok _ _ _ _ (h1096.ext hE1)) ?_
              rintro _ w6801 ⟨rfl, hE6800⟩
              have hzhE6800 := hE6800.size
              refine ⟨_, rfl, ?_⟩
              refine WL.nil (fun a_ ha => ?_)
              exact ⟨_, β, ha, hE6800, BExt.refl _ _, hbi.ext hE6800, rfl⟩
            · intro σ β w1 hE1 hbi hk
              have hz1 := hE1.size
              obtain ⟨_, hv6898, rfl⟩ := hk 42 (by kernel_rfl) _ _ rfl rfl
              obtain ⟨_, hv6899, rfl⟩ := hk 46 (by kernel_rfl) _ _ rfl rfl
              refine ⟨[(124, .bool true), (128, .int .i64 (Nd.sizes A))], (agree_cons (look_right rfl hv6898) (agree_cons (look_right rfl hv6899) (agree_nil _))), ?_⟩
              refine WL.add (v := 1 + (Nd.sizes A)) rfl rfl rfl rfl (IntWalk.i64_in _ (by omega)) ?_
              refine WL.nil (fun a_ ha => ?_)
              exact ⟨_, β, ha, (Ext.refl _), BExt.refl _ _, hbi.ext (Ext.refl _), rfl⟩
            · intro σ β w1 hE1 hbi hk
              have hz1 := hE1.size
              obtain ⟨_, hv6998, rfl⟩ := hk 42 (by kernel_rfl) _ _ rfl rfl
              obtain ⟨_, hv6999, rfl⟩ := hk 44 (by kernel_rfl) _ _ rfl rfl
              obtain ⟨_, hv7000, rfl⟩ := hk 47 (by kernel_rfl) _ _ rfl rfl
              refine ⟨[(124, .bool true), (126, .int .i64 (Nd.sizes (Nd.times A mn mx))), (129, .int .i64 (1 + (Nd.sizes A)))], (agree_cons (look_right rfl hv6998) (agree_cons (look_right rfl hv6999) (agree_cons (look_right rfl hv7000) (agree_nil _)))), ?_⟩
              refine WL.eql (b := true) rfl rfl rfl rfl (by rw [(Nd.times_rep hfA (by omega) (by omega) (by omega) (by omega)), Nd.rep_sizes hmA (by omega) (by omega) (by omega) (by omega)]; exact beq_self_eq_true _) ?_
              refine WL.nil (fun a_ ha => ?_)
              exact ⟨_, β, ha, (Ext.refl _), BExt.refl _ _, hbi.ext (Ext.refl _), rfl⟩
            · intro σ β w1 hE1 hbi hk
              have hz1 := hE1.size
              obtain ⟨_, hv7098, rfl⟩ := hk 42 (by kernel_rfl) _ _ rfl rfl
              obtain ⟨_, hv7099, rfl⟩ := hk 48 (by kernel_rfl) _ _ rfl rfl
              refine ⟨[(124, .bool true), (130, .bool true)], (agree_cons (look_right rfl hv7098) (agree_cons (look_right rfl hv7099) (agree_nil _))), ?_⟩
              refine WL.pick_t rfl rfl rfl rfl ?_
              refine WL.nil (fun a_ ha => ?_)
              exact ⟨_, β, ha, (Ext.refl _), BExt.refl _ _, hbi.ext (Ext.refl _), rfl⟩
            intro σ β w1997 hE1997 hbi1997 hk
            have hz1997 := hE1997.size
            have hbi := hbi1997
            obtain ⟨_, hv1998, rfl⟩ := hk 49 (by decide) _ _ rfl rfl
            refine WL.know [(131, .bool true)] (agree_cons (look_right rfl hv1998) (agree_nil _)) ?_
            refine WL.assign rfl rfl rfl ?_
            refine WL.done' ?_ (fun _ _ h => h)
            refine WC.ret (fun a_ ha => ?_)
            exact bodyPost_tmp rfl ha rfl ⟨rfl, ((hB935.onto ((((((hB13.onto ((hE1.trans hE4).trans hE10) (by omega)).trans hE915).trans hE918).trans hE923).trans hE926).trans hE932) (by omega)).trans hE1997)⟩
          | true =>
            refine WL.eql rfl rfl rfl rfl hc1093 ?_
            have hp1093 := beq_iff_eq.1 hc1093
            refine WL.move rfl rfl rfl ?_
            refine WL.move rfl rfl rfl ?_
            have hc1144 : ((mx : Int) == 1) = false := beq_eq_false_iff_ne.2 (by omega)
            refine WL.eql rfl rfl rfl rfl hc1144 ?_
            refine WL.pick_t rfl rfl rfl rfl ?_
            refine WL.done' ?_ (fun _ _ h => h)
            refine WC.cond_f rfl ?_
            refine WC.skip'' ?_ (fun _ _ h => h)
            refine WC.seqk ?_
            refine WC.region ?_
            refine WL.move rfl rfl rfl ?_
            refine WL.move rfl rfl rfl ?_
            refine WL.max3 (v := Nd.max3 mn mx 1) rfl rfl rfl rfl rfl rfl ?_
            refine WL.assign rfl rfl rfl ?_
            refine WL.done' ?_ (fun _ _ h => h)
            refine WC.seqk ?_
            have h1145 := ((hts925.ext hE932).but hB935 (by intro h1; first | omega | ((try dsimp only at h1); (repeat' first | (guard_hyp h1 : _ ∨ _; refine Or.elim h1 (fun h1 => ?_) (fun h1 => ?_)) | (guard_hyp h1 : _ ∧ _; have hx := h1.2; replace h1 := h1.1)) <;> first | contradiction | omega)))
            obtain ⟨t1146, ht1146⟩ : ∃ t, (Nd.times A mn mx).subs[0]? = some t := ⟨_, List.getElem?_eq_getElem (by rw [(Nd.times_rep hfA (by omega) (by omega) (by omega) (by omega))]; exact Nat.zero_lt_one)⟩
            obtain ⟨eb1146, eo1146, el1146, hea1146, hD1146, her1146, hn1146⟩ := h1145.at ht1146
            obtain ⟨sl1146, rfl, hts1146⟩ := hn1146.opn
            obtain ⟨a1146, cap1146, rfl, hlen1146, -⟩ := hts1146.get
            subst hea1146
            have h0t1146 : t1146 = A := by rw [(Nd.times_rep hfA (by omega) (by omega) (by omega) (by omega))] at ht1146; exact (Option.some.inj ht1146).symm
            have h1147 := ((((h921.ext hE923).ext hE926).ext hE932).but hB935 (by intro h1; first | omega | ((try dsimp only at h1); (repeat' first | (guard_hyp h1 : _ ∨ _; refine Or.elim h1 (fun h1 => ?_) (fun h1 => ?_)) | (guard_hyp h1 : _ ∧ _; have hx := h1.2; replace h1 := h1.1)) <;> first | contradiction | omega)))
            have h1148 := ((hn925.ext hE932).but hB935 (by intro h1; first | omega | ((try dsimp only at h1); (repeat' first | (guard_hyp h1 : _ ∨ _; refine Or.elim h1 (fun h1 => ?_) (fun h1 => ?_)) | (guard_hyp h1 : _ ∧ _; have hx := h1.2; replace h1 := h1.1)) <;> first | contradiction | omega)))
            refine WC.weaken (r' := [(1, .int .i64 mn), (2, .int .i64 mx), (6, .bool false), (12, .bool false), (7, .pointer (some ⟨b6, 0, none⟩)), (25, .bool false), (8, .pointer (some ⟨b928, 0, none⟩)), (50, .bool false), (66, .bool false), (75, .bool false), (10, .int .i64 (Nd.max3 mn mx 1))]) (subReg_cons rfl (subReg_cons rfl (subReg_cons rfl (subReg_cons rfl (subReg_cons rfl (subReg_cons rfl (subReg_cons rfl (subReg_cons rfl (subReg_cons rfl (subReg_cons rfl (subReg_cons rfl (subReg_nil _)))))))))))) ?_
            refine WC.draw 50 [82, 83, 84, 85, 86, 87, 88, 89, 90, 91, 92, 93, 94, 95, 96, 97, 98, 99, 100, 101, 102, 103, 104, 105, 106, 107, 108, 109, 110, 111, 112, 113, 114, 115, 116, 117, 118, 119, 120, 121, 122, 123, 124, 125, 126, 127, 128, 129, 130, 131] [pc (.agg #[.int .u8 (Nd.times A mn mx).kind, .int .u64 (Nd.times A mn mx).set.a, .int .u64 (Nd.times A mn mx).set.b, .int .u64 (Nd.times A mn mx).set.c, .int .u64 (Nd.times A mn mx).set.d, .int .i64 (Nd.times A mn mx).least, .int .i64 (Nd.times A mn mx).most, .slice (some ⟨eb1146, eo1146, none⟩) (Nd.times A mn mx).subs.length cap925]), pc (.bool true), pc (.bool true), pc (.pointer (some ⟨b928, 0, none⟩)), pc (.int .u8 ((Nd.times A mn mx).kind)), pc (.bool true), pc (.bool true), pc (.bool true), pc (.pointer (some ⟨b928, 5, none⟩)), pc (.int .i64 ((Nd.times A mn mx).least)), pc (.int .i64 mn), pc (.bool true), pc (.bool true), pc (.bool true), pc (.pointer (some ⟨b928, 6, none⟩)), pc (.int .i64 ((Nd.times A mn mx).most)), pc (.int .i64 mx), pc (.bool true), pc (.bool true), pc (.bool true), pc (.pointer (some ⟨b928, 7, none⟩)), pc (.slice (some ⟨eb1146, eo1146, none⟩) ((Nd.times A mn mx).subs.length) cap925), pc (.int .i64 ((Nd.times A mn mx).subs.length)), pc (.bool true), pc (.bool true), pc (.bool true), pc (.pointer (some ⟨b928, 7, none⟩)), pc (.slice (some ⟨eb1146, eo1146, none⟩) ((Nd.times A mn mx).subs.length) cap925), pc (.pointer (some ⟨eb1146, eo1146 + 0 * 8, none⟩)), pc (.agg #[.int .u8 t1146.kind, .int .u64 t1146.set.a, .int .u64 t1146.set.b, .int .u64 t1146.set.c, .int .u64 t1146.set.d, .int .i64 t1146.least, .int .i64 t1146.most, .slice a1146 t1146.subs.length cap1146]), pc (.agg #[.int .u8 A.kind, .int .u64 A.set.a, .int .u64 A.set.b, .int .u64 A.set.c, .int .u64 A.set.d, .int .i64 A.least, .int .i64 A.most, .slice a3 A.subs.length cap3]), pc (.bool true), pc (.bool true), pc (.bool true), pc (.agg #[.int .u8 (Nd.times A mn mx).kind, .int .u64 (Nd.times A mn mx).set.a, .int .u64 (Nd.times A mn mx).set.b, .int .u64 (Nd.times A mn mx).set.c, .int .u64 (Nd.times A mn mx).set.d, .int .i64 (Nd.times A mn mx).least, .int .i64 (Nd.times A mn mx).most, .slice (some ⟨eb1146, eo1146, none⟩) (Nd.times A mn mx).subs.length cap925]), pc (.int .i64 (Nd.posns (Nd.times A mn mx))), pc (.int .i64 (Nd.max3 mn mx 1)), pc (.agg #[.int .u8 A.kind, .int .u64 A.set.a, .int .u64 A.set.b, .int .u64 A.set.c, .int .u64 A.set.d, .int .i64 A.least, .int .i64 A.most, .slice a3 A.subs.length cap3]), pc (.int .i64 (Nd.posns A)), pc (.int .i64 (Nd.max3 mn mx 1 * (Nd.posns A))), pc (.bool true), pc (.bool true), pc (.bool true), pc (.agg #[.int .u8 (Nd.times A mn mx).kind, .int .u64 (Nd.times A mn mx).set.a, .int .u64 (Nd.times A mn mx).set.b, .int .u64 (Nd.times A mn mx).set.c, .int .u64 (Nd.times A mn mx).set.d, .int .i64 (Nd.times A mn mx).least, .int .i64 (Nd.times A mn mx).most, .slice (some ⟨eb1146, eo1146, none⟩) (Nd.times A mn mx).subs.length cap925]), pc (.int .i64 (Nd.sizes (Nd.times A mn mx))), pc (.agg #[.int .u8 A.kind, .int .u64 A.set.a, .int .u64 A.set.b, .int .u64 A.set.c, .int .u64 A.set.d, .int .i64 A.least, .int .i64 A.most, .slice a3 A.subs.length cap3]), pc (.int .i64 (Nd.sizes A)), pc (.int .i64 (1 + (Nd.sizes A))), pc (.bool true), pc (.bool true)] (by kernel_rfl) (by kernel_rfl) ⟨KW_pc _, KW_pc _, KW_pc _, KW_pc _, KW_pc _, KW_pc _, KW_pc _, KW_pc _, KW_pc _, KW_pc _, KW_pc _, KW_pc _, KW_pc _, KW_pc _, KW_pc _, KW_pc _, KW_pc _, KW_pc _, KW_pc _, KW_pc _, KW_pc _, KW_pc _, KW_pc _, KW_pc _, KW_pc _, KW_pc _, KW_pc _, KW_pc _, KW_pc _, KW_pc _, KW_pc _, KW_pc _, KW_pc _, KW_pc _, KW_pc _, KW_pc _, KW_pc _, KW_pc _, KW_pc _, KW_pc _, KW_pc _, KW_pc _, KW_pc _, KW_pc _, KW_pc _, KW_pc _, KW_pc _, KW_pc _, KW_pc _, KW_pc _, trivial⟩ rfl rfl rfl (StepsOn.cons ?_ (StepsOn.cons ?_ (StepsOn.cons ?_ (StepsOn.cons ?_ (StepsOn.cons ?_ (StepsOn.cons ?_ (StepsOn.cons ?_ (StepsOn.cons ?_ (StepsOn.cons ?_ (StepsOn.cons ?_ (StepsOn.cons ?_ (StepsOn.cons ?_ (StepsOn.cons ?_ (StepsOn.cons ?_ (StepsOn.cons ?_ (StepsOn.cons ?_ (StepsOn.cons ?_ (StepsOn.cons ?_ (StepsOn.cons ?_ (StepsOn.cons ?_ (StepsOn.cons ?_ (StepsOn.cons ?_ (StepsOn.cons ?_ (StepsOn.cons ?_ (StepsOn.cons ?_ (StepsOn.cons ?_ (StepsOn.cons ?_ (StepsOn.cons ?_ (StepsOn.cons ?_ (StepsOn.cons ?_ (StepsOn.cons ?_ (StepsOn.cons ?_ (StepsOn.cons ?_ (StepsOn.cons ?_ (StepsOn.cons ?_ (StepsOn.cons ?_ (StepsOn.cons ?_ (StepsOn.cons ?_ (StepsOn.cons ?_ (StepsOn.cons ?_ (StepsOn.cons ?_ (StepsOn.cons ?_ (StepsOn.cons ?_ (StepsOn.cons ?_ (StepsOn.cons ?_ (StepsOn.cons ?_ (StepsOn.cons ?_ (StepsOn.cons ?_ (StepsOn.cons ?_ (StepsOn.cons ?_ (StepsOn.nil _))))))))))))))))))))))))))))))))))))))))))))))))))) ?_
            · intro σ β w1 hE1 hbi hk
              have hz1 := hE1.size
              refine ⟨[], (agree_nil _), ?_⟩
              refine WL.load_box rfl rfl rfl (hR934.ext hE1) Ty.agg29 ?_
              refine WL.nil (fun a_ ha => ?_)
              exact ⟨_, β, ha, (Ext.refl _), BExt.refl _ _, hbi.ext (Ext.refl _), rfl⟩
            · intro σ β w1 hE1 hbi hk
              have hz1 := hE1.size
              obtain ⟨_, hv2349, rfl⟩ := hk 0 (by kernel_rfl) _ _ rfl rfl
              refine ⟨[(82, .agg #[.int .u8 (Nd.times A mn mx).kind, .int .u64 (Nd.times A mn mx).set.a, .int .u64 (Nd.times A mn mx).set.b, .int .u64 (Nd.times A mn mx).set.c, .int .u64 (Nd.times A mn mx).set.d, .int .i64 (Nd.times A mn mx).least, .int .i64 (Nd.times A mn mx).most, .slice (some ⟨eb1146, eo1146, none⟩) (Nd.times A mn mx).subs.length cap925])], (agree_cons (look_right rfl hv2349) (agree_nil _)), ?_⟩
              refine WL.call rfl rfl rfl Ty.ent12 (clean_ok _ _ _ _ (h1148.ext hE1)) ?_
              rintro _ w2351 ⟨he, hE2350⟩
              have hq : (Nd.clean (Nd.times A mn mx)) = true := (by rw [(Nd.times_rep hfA (by omega) (by omega) (by omega) (by omega))]; exact (Nd.rep_fine hmA (by omega) (by omega) (by omega) (by omega)).clean)
              rw [hq] at he
              subst he
              clear hq
              have hzhE2350 := hE2350.size
              refine ⟨_, rfl, ?_⟩
              refine WL.nil (fun a_ ha => ?_)
              exact ⟨_, β, ha, hE2350, BExt.refl _ _, hbi.ext hE2350, rfl⟩
            · intro σ β w1 hE1 hbi hk
              have hz1 := hE1.size
              obtain ⟨_, hv2449, rfl⟩ := hk 1 (by kernel_rfl) _ _ rfl rfl
              refine ⟨[(83, .bool true)], (agree_cons (look_right rfl hv2449) (agree_nil _)), ?_⟩
              refine WL.move rfl rfl rfl ?_
              refine WL.nil (fun a_ ha => ?_)
              exact ⟨_, β, ha, (Ext.refl _), BExt.refl _ _, hbi.ext (Ext.refl _), rfl⟩
            · intro σ β w1 hE1 hbi hk
              have hz1 := hE1.size
              obtain ⟨_, hv2549, rfl⟩ := hk 2 (by kernel_rfl) _ _ rfl rfl
              refine ⟨[(84, .bool true)], (agree_cons (look_right rfl hv2549) (agree_nil _)), ?_⟩
              refine WL.fieldAddr rfl rfl Ty.fld29_0 rfl ?_
              refine WL.nil (fun a_ ha => ?_)
              exact ⟨_, β, ha, (Ext.refl _), BExt.refl _ _, hbi.ext (Ext.refl _), rfl⟩
            · intro σ β w1 hE1 hbi hk
              have hz1 := hE1.size
              obtain ⟨_, hv2649, rfl⟩ := hk 2 (by kernel_rfl) _ _ rfl rfl
              obtain ⟨_, hv2650, rfl⟩ := hk 3 (by kernel_rfl) _ _ rfl rfl
              refine ⟨[(84, .bool true), (85, .pointer (some ⟨b928, 0, none⟩))], (agree_cons (look_right rfl hv2649) (agree_cons (look_right rfl hv2650) (agree_nil _))), ?_⟩
              refine WL.load_fld rfl rfl Ty.flat5 rfl (hR934.ext hE1) rfl ?_
              refine WL.nil (fun a_ ha => ?_)
              exact ⟨_, β, ha, (Ext.refl _), BExt.refl _ _, hbi.ext (Ext.refl _), rfl⟩
            · intro σ β w1 hE1 hbi hk
              have hz1 := hE1.size
              obtain ⟨_, hv2749, rfl⟩ := hk 2 (by kernel_rfl) _ _ rfl rfl
              obtain ⟨_, hv2750, rfl⟩ := hk 4 (by kernel_rfl) _ _ rfl rfl
              refine ⟨[(84, .bool true), (86, .int .u8 ((Nd.times A mn mx).kind))], (agree_cons (look_right rfl hv2749) (agree_cons (look_right rfl hv2750) (agree_nil _))), ?_⟩
              refine WL.eql (b := true) rfl rfl rfl rfl (by rw [(Nd.times_rep hfA (by omega) (by omega) (by omega) (by omega))]; rfl) ?_
              refine WL.nil (fun a_ ha => ?_)
              exact ⟨_, β, ha, (Ext.refl _), BExt.refl _ _, hbi.ext (Ext.refl _), rfl⟩
            · intro σ β w1 hE1 hbi hk
              have hz1 := hE1.size
              obtain ⟨_, hv2849, rfl⟩ := hk 2 (by kernel_rfl) _ _ rfl rfl
              obtain ⟨_, hv2850, rfl⟩ := hk 5 (by kernel_rfl) _ _ rfl rfl
              refine ⟨[(84, .bool true), (87, .bool true)], (agree_cons (look_right rfl hv2849) (agree_cons (look_right rfl hv2850) (agree_nil _))), ?_⟩
              refine WL.pick_t rfl rfl rfl rfl ?_
              refine WL.nil (fun a_ ha => ?_)
              exact ⟨_, β, ha, (Ext.refl _), BExt.refl _ _, hbi.ext (Ext.refl _), rfl⟩
            · intro σ β w1 hE1 hbi hk
              have hz1 := hE1.size
              obtain ⟨_, hv2949, rfl⟩ := hk 6 (by kernel_rfl) _ _ rfl rfl
              refine ⟨[(88, .bool true)], (agree_cons (look_right rfl hv2949) (agree_nil _)), ?_⟩
              refine WL.move rfl rfl rfl ?_
              refine WL.nil (fun a_ ha => ?_)
              exact ⟨_, β, ha, (Ext.refl _), BExt.refl _ _, hbi.ext (Ext.refl _), rfl⟩
            · intro σ β w1 hE1 hbi hk
              have hz1 := hE1.size
              obtain ⟨_, hv3049, rfl⟩ := hk 7 (by kernel_rfl) _ _ rfl rfl
              refine ⟨[(89, .bool true)], (agree_cons (look_right rfl hv3049) (agree_nil _)), ?_⟩
              refine WL.fieldAddr rfl rfl Ty.fld29_2 rfl ?_
              refine WL.nil (fun a_ ha => ?_)
              exact ⟨_, β, ha, (Ext.refl _), BExt.refl _ _, hbi.ext (Ext.refl _), rfl⟩
            · intro σ β w1 hE1 hbi hk
              have hz1 := hE1.size
              obtain ⟨_, hv3149, rfl⟩ := hk 7 (by kernel_rfl) _ _ rfl rfl
              obtain ⟨_, hv3150, rfl⟩ := hk 8 (by kernel_rfl) _ _ rfl rfl
              refine ⟨[(89, .bool true), (90, .pointer (some ⟨b928, 5, none⟩))], (agree_cons (look_right rfl hv3149) (agree_cons (look_right rfl hv3150) (agree_nil _))), ?_⟩
              refine WL.load_fld rfl rfl Ty.flat3 rfl (hR934.ext hE1) rfl ?_
              refine WL.nil (fun a_ ha => ?_)
              exact ⟨_, β, ha, (Ext.refl _), BExt.refl _ _, hbi.ext (Ext.refl _), rfl⟩
            · intro σ β w1 hE1 hbi hk
              have hz1 := hE1.size
              obtain ⟨_, hv3249, rfl⟩ := hk 7 (by kernel_rfl) _ _ rfl rfl
              refine ⟨[(89, .bool true)], (agree_cons (look_right rfl hv3249) (agree_nil _)), ?_⟩
              refine WL.move rfl rfl rfl ?_
              refine WL.nil (fun a_ ha => ?_)
              exact ⟨_, β, ha, (Ext.refl _), BExt.refl _ _, hbi.ext (Ext.refl _), rfl⟩
            · intro σ β w1 hE1 hbi hk
              have hz1 := hE1.size
              obtain ⟨_, hv3349, rfl⟩ := hk 7 (by kernel_rfl) _ _ rfl rfl
              obtain ⟨_, hv3350, rfl⟩ := hk 9 (by kernel_rfl) _ _ rfl rfl
              obtain ⟨_, hv3351, rfl⟩ := hk 10 (by kernel_rfl) _ _ rfl rfl
              refine ⟨[(89, .bool true), (91, .int .i64 ((Nd.times A mn mx).least)), (92, .int .i64 mn)], (agree_cons (look_right rfl hv3349) (agree_cons (look_right rfl hv3350) (agree_cons (look_right rfl hv3351) (agree_nil _)))), ?_⟩
              refine WL.eql (b := true) rfl rfl rfl rfl (by rw [(Nd.times_rep hfA (by omega) (by omega) (by omega) (by omega))]; exact beq_self_eq_true mn) ?_
              refine WL.nil (fun a_ ha => ?_)
              exact ⟨_, β, ha, (Ext.refl _), BExt.refl _ _, hbi.ext (Ext.refl _), rfl⟩
            · intro σ β w1 hE1 hbi hk
              have hz1 := hE1.size
              obtain ⟨_, hv3449, rfl⟩ := hk 7 (by kernel_rfl) _ _ rfl rfl
              obtain ⟨_, hv3450, rfl⟩ := hk 11 (by kernel_rfl) _ _ rfl rfl
              refine ⟨[(89, .bool true), (93, .bool true)], (agree_cons (look_right rfl hv3449) (agree_cons (look_right rfl hv3450) (agree_nil _))), ?_⟩
              refine WL.pick_t rfl rfl rfl rfl ?_
              refine WL.nil (fun a_ ha => ?_)
              exact ⟨_, β, ha, (Ext.refl _), BExt.refl _ _, hbi.ext (Ext.refl _), rfl⟩
            · intro σ β w1 hE1 hbi hk
              have hz1 := hE1.size
              obtain ⟨_, hv3549, rfl⟩ := hk 12 (by kernel_rfl) _ _ rfl rfl
              refine ⟨[(94, .bool true)], (agree_cons (look_right rfl hv3549) (agree_nil _)), ?_⟩
              refine WL.move rfl rfl rfl ?_
              refine WL.nil (fun a_ ha => ?_)
              exact ⟨_, β, ha, (Ext.refl _), BExt.refl _ _, hbi.ext (Ext.refl _), rfl⟩
            · intro σ β w1 hE1 hbi hk
              have hz1 := hE1.size
              obtain ⟨_, hv3649, rfl⟩ := hk 13 (by kernel_rfl) _ _ rfl rfl
              refine ⟨[(95, .bool true)], (agree_cons (look_right rfl hv3649) (agree_nil _)), ?_⟩
              refine WL.fieldAddr rfl rfl Ty.fld29_3 rfl ?_
              refine WL.nil (fun a_ ha => ?_)
              exact ⟨_, β, ha, (Ext.refl _), BExt.refl _ _, hbi.ext (Ext.refl _), rfl⟩
            · intro σ β w1 hE1 hbi hk
              have hz1 := hE1.size
              obtain ⟨_, hv3749, rfl⟩ := hk 13 (by kernel_rfl) _ _ rfl rfl
              obtain ⟨_, hv3750, rfl⟩ := hk 14 (by kernel_rfl) _ _ rfl rfl
              refine ⟨[(95, .bool true), (96, .pointer (some ⟨b928, 6, none⟩))], (agree_cons (look_right rfl hv3749) (agree_cons (look_right rfl hv3750) (agree_nil _))), ?_⟩
              refine WL.load_fld rfl rfl Ty.flat3 rfl (hR934.ext hE1) rfl ?_
              refine WL.nil (fun a_ ha => ?_)
              exact ⟨_, β, ha, (Ext.refl _), BExt.refl _ _, hbi.ext (Ext.refl _), rfl⟩
            · intro σ β w1 hE1 hbi hk
              have hz1 := hE1.size
              obtain ⟨_, hv3849, rfl⟩ := hk 13 (by kernel_rfl) _ _ rfl rfl
              refine ⟨[(95, .bool true)], (agree_cons (look_right rfl hv3849) (agree_nil _)), ?_⟩
              refine WL.move rfl rfl rfl ?_
              refine WL.nil (fun a_ ha => ?_)
              exact ⟨_, β, ha, (Ext.refl _), BExt.refl _ _, hbi.ext (Ext.refl _), rfl⟩
            · intro σ β w1 hE1 hbi hk
              have hz1 := hE1.size
              obtain ⟨_, hv3949, rfl⟩ := hk 13 (by kernel_rfl) _ _ rfl rfl
              obtain ⟨_, hv3950, rfl⟩ := hk 15 (by kernel_rfl) _ _ rfl rfl
              obtain ⟨_, hv3951, rfl⟩ := hk 16 (by kernel_rfl) _ _ rfl rfl
              refine ⟨[(95, .bool true), (97, .int .i64 ((Nd.times A mn mx).most)), (98, .int .i64 mx)], (agree_cons (look_right rfl hv3949) (agree_cons (look_right rfl hv3950) (agree_cons (look_right rfl hv3951) (agree_nil _)))), ?_⟩
              refine WL.eql (b := true) rfl rfl rfl rfl (by rw [(Nd.times_rep hfA (by omega) (by omega) (by omega) (by omega))]; exact beq_self_eq_true mx) ?_
              refine WL.nil (fun a_ ha => ?_)
              exact ⟨_, β, ha, (Ext.refl _), BExt.refl _ _, hbi.ext (Ext.refl _), rfl⟩
            · intro σ β w1 hE1 hbi hk
              have hz1 := hE1.size
              obtain ⟨_, hv4049, rfl⟩ := hk 13 (by kernel_rfl) _ _ rfl rfl
              obtain ⟨_, hv4050, rfl⟩ := hk 17 (by kernel_rfl) _ _ rfl rfl
              refine ⟨[(95, .bool true), (99, .bool true)], (agree_cons (look_right rfl hv4049) (agree_cons (look_right rfl hv4050) (agree_nil _))), ?_⟩
              refine WL.pick_t rfl rfl rfl rfl ?_
              refine WL.nil (fun a_ ha => ?_)
              exact ⟨_, β, ha, (Ext.refl _), BExt.refl _ _, hbi.ext (Ext.refl _), rfl⟩
            · intro σ β w1 hE1 hbi hk
              have hz1 := hE1.size
              obtain ⟨_, hv4149, rfl⟩ := hk 18 (by kernel_rfl) _ _ rfl rfl
              refine ⟨[(100, .bool true)], (agree_cons (look_right rfl hv4149) (agree_nil _)), ?_⟩
              refine WL.move rfl rfl rfl ?_
              refine WL.nil (fun a_ ha => ?_)
              exact ⟨_, β, ha, (Ext.refl _), BExt.refl _ _, hbi.ext (Ext.refl _), rfl⟩
            · intro σ β w1 hE1 hbi hk
              have hz1 := hE1.size
              obtain ⟨_, hv4249, rfl⟩ := hk 19 (by kernel_rfl) _ _ rfl rfl
              refine ⟨[(101, .bool true)], (agree_cons (look_right rfl hv4249) (agree_nil _)), ?_⟩
              refine WL.fieldAddr rfl rfl Ty.fld29_4 rfl ?_
              refine WL.nil (fun a_ ha => ?_)
              exact ⟨_, β, ha, (Ext.refl _), BExt.refl _ _, hbi.ext (Ext.refl _), rfl⟩
            · intro σ β w1 hE1 hbi hk
              have hz1 := hE1.size
              obtain ⟨_, hv4349, rfl⟩ := hk 19 (by kernel_rfl) _ _ rfl rfl
              obtain ⟨_, hv4350, rfl⟩ := hk 20 (by kernel_rfl) _ _ rfl rfl
              refine ⟨[(101, .bool true), (102, .pointer (some ⟨b928, 7, none⟩))], (agree_cons (look_right rfl hv4349) (agree_cons (look_right rfl hv4350) (agree_nil _))), ?_⟩
              refine WL.load_fld rfl rfl Ty.flat27 rfl (hR934.ext hE1) rfl ?_
              refine WL.nil (fun a_ ha => ?_)
              exact ⟨_, β, ha, (Ext.refl _), BExt.refl _ _, hbi.ext (Ext.refl _), rfl⟩
            · intro σ β w1 hE1 hbi hk
              have hz1 := hE1.size
              obtain ⟨_, hv4449, rfl⟩ := hk 19 (by kernel_rfl) _ _ rfl rfl
              obtain ⟨_, hv4450, rfl⟩ := hk 21 (by kernel_rfl) _ _ rfl rfl
              refine ⟨[(101, .bool true), (103, .slice (some ⟨eb1146, eo1146, none⟩) ((Nd.times A mn mx).subs.length) cap925)], (agree_cons (look_right rfl hv4449) (agree_cons (look_right rfl hv4450) (agree_nil _))), ?_⟩
              refine WL.len rfl rfl Try.underlying27 rfl ?_
              refine WL.nil (fun a_ ha => ?_)
              exact ⟨_, β, ha, (Ext.refl _), BExt.refl _ _, hbi.ext (Ext.refl _), rfl⟩
            · intro σ β w1 hE1 hbi hk
              have hz1 := hE1.size
              obtain ⟨_, hv4549, rfl⟩ := hk 19 (by kernel_rfl) _ _ rfl rfl
              obtain ⟨_, hv4550, rfl⟩ := hk 22 (by kernel_rfl) _ _ rfl rfl
              refine ⟨[(101, .bool true), (104, .int .i64 ((Nd.times A mn mx).subs.length))], (agree_cons (look_right rfl hv4549) (agree_cons (look_right rfl hv4550) (agree_nil _))), ?_⟩
              refine WL.eql (b := true) rfl rfl rfl rfl (by rw [(Nd.times_rep hfA (by omega) (by omega) (by omega) (by omega))]; rfl) ?_
              refine WL.nil (fun a_ ha => ?_)
              exact ⟨_, β, ha, (Ext.refl _), BExt.refl _ _, hbi.ext (Ext.refl _), rfl⟩
            · intro σ β w1 hE1 hbi hk
              have hz1 := hE1.size
              obtain ⟨_, hv4649, rfl⟩ := hk 19 (by kernel_rfl) _ _ rfl rfl
              obtain ⟨_, hv4650, rfl⟩ := hk 23 (by kernel_rfl) _ _ rfl rfl
              refine ⟨[(101, .bool true), (105, .bool true)], (agree_cons (look_right rfl hv4649) (agree_cons (look_right rfl hv4650) (agree_nil _))), ?_⟩
              refine WL.pick_t rfl rfl rfl rfl ?_
              refine WL.nil (fun a_ ha => ?_)
              exact ⟨_, β, ha, (Ext.refl _), BExt.refl _ _, hbi.ext (Ext.refl _), rfl⟩
            · intro σ β w1 hE1 hbi hk
              have hz1 := hE1.size
              obtain ⟨_, hv4749, rfl⟩ := hk 24 (by kernel_rfl) _ _ rfl rfl
              refine ⟨[(106, .bool true)], (agree_cons (look_right rfl hv4749) (agree_nil _)), ?_⟩
              refine WL.move rfl rfl rfl ?_
              refine WL.nil (fun a_ ha => ?_)
              exact ⟨_, β, ha, (Ext.refl _), BExt.refl _ _, hbi.ext (Ext.refl _), rfl⟩
            · intro σ β w1 hE1 hbi hk
              have hz1 := hE1.size
              obtain ⟨_, hv4849, rfl⟩ := hk 25 (by kernel_rfl) _ _ rfl rfl
              refine ⟨[(107, .bool true)], (agree_cons (look_right rfl hv4849) (agree_nil _)), ?_⟩
              refine WL.fieldAddr rfl rfl Ty.fld29_4 rfl ?_
              refine WL.nil (fun a_ ha => ?_)
              exact ⟨_, β, ha, (Ext.refl _), BExt.refl _ _, hbi.ext (Ext.refl _), rfl⟩
            · intro σ β w1 hE1 hbi hk
              have hz1 := hE1.size
              obtain ⟨_, hv4949, rfl⟩ := hk 25 (by kernel_rfl) _ _ rfl rfl
              obtain ⟨_, hv4950, rfl⟩ := hk 26 (by kernel_rfl) _ _ rfl rfl
              refine ⟨[(107, .bool true), (108, .pointer (some ⟨b928, 7, none⟩))], (agree_cons (look_right rfl hv4949) (agree_cons (look_right rfl hv4950) (agree_nil _))), ?_⟩
              refine WL.load_fld rfl rfl Ty.flat27 rfl (hR934.ext hE1) rfl ?_
              refine WL.nil (fun a_ ha => ?_)
              exact ⟨_, β, ha, (Ext.refl _), BExt.refl _ _, hbi.ext (Ext.refl _), rfl⟩
            · intro σ β w1 hE1 hbi hk
              have hz1 := hE1.size
              obtain ⟨_, hv5049, rfl⟩ := hk 25 (by kernel_rfl) _ _ rfl rfl
              obtain ⟨_, hv5050, rfl⟩ := hk 27 (by kernel_rfl) _ _ rfl rfl
              refine ⟨[(107, .bool true), (109, .slice (some ⟨eb1146, eo1146, none⟩) ((Nd.times A mn mx).subs.length) cap925)], (agree_cons (look_right rfl hv5049) (agree_cons (look_right rfl hv5050) (agree_nil _))), ?_⟩
              refine WL.indexAddr (i := 0) rfl rfl Ty.slice27 rfl rfl rfl (by rw [(Nd.times_rep hfA (by omega) (by omega) (by omega) (by omega))]; exact Nat.zero_lt_one) ?_
              refine WL.nil (fun a_ ha => ?_)
              exact ⟨_, β, ha, (Ext.refl _), BExt.refl _ _, hbi.ext (Ext.refl _), rfl⟩
            · intro σ β w1 hE1 hbi hk
              have hz1 := hE1.size
              obtain ⟨_, hv5149, rfl⟩ := hk 25 (by kernel_rfl) _ _ rfl rfl
              obtain ⟨_, hv5150, rfl⟩ := hk 28 (by kernel_rfl) _ _ rfl rfl
              refine ⟨[(107, .bool true), (110, .pointer (some ⟨eb1146, eo1146 + 0 * 8, none⟩))], (agree_cons (look_right rfl hv5149) (agree_cons (look_right rfl hv5150) (agree_nil _))), ?_⟩
              refine WL.load_agg (l := tcells t1146 (.slice a1146 t1146.subs.length cap1146)) rfl rfl Ty.agg29 rfl (her1146.ext hE1) ?_
              refine WL.nil (fun a_ ha => ?_)
              exact ⟨_, β, ha, (Ext.refl _), BExt.refl _ _, hbi.ext (Ext.refl _), rfl⟩
            · intro σ β w1 hE1 hbi hk
              have hz1 := hE1.size
              obtain ⟨_, hv5249, rfl⟩ := hk 25 (by kernel_rfl) _ _ rfl rfl
              refine ⟨[(107, .bool true)], (agree_cons (look_right rfl hv5249) (agree_nil _)), ?_⟩
              refine WL.load_box rfl rfl rfl (h1090.ext hE1) Ty.agg29 ?_
              refine WL.nil (fun a_ ha => ?_)
              exact ⟨_, β, ha, (Ext.refl _), BExt.refl _ _, hbi.ext (Ext.refl _), rfl⟩
            · intro σ β w1 hE1 hbi hk
              have hz1 := hE1.size
              obtain ⟨_, hv5349, rfl⟩ := hk 25 (by kernel_rfl) _ _ rfl rfl
              obtain ⟨_, hv5350, rfl⟩ := hk 29 (by kernel_rfl) _ _ rfl rfl
              obtain ⟨_, hv5351, rfl⟩ := hk 30 (by kernel_rfl) _ _ rfl rfl
              refine ⟨[(107, .bool true), (111, .agg #[.int .u8 t1146.kind, .int .u64 t1146.set.a, .int .u64 t1146.set.b, .int .u64 t1146.set.c, .int .u64 t1146.set.d, .int .i64 t1146.least, .int .i64 t1146.most, .slice a1146 t1146.subs.length cap1146]), (112, .agg #[.int .u8 A.kind, .int .u64 A.set.a, .int .u64 A.set.b, .int .u64 A.set.c, .int .u64 A.set.d, .int .i64 A.least, .int .i64 A.most, .slice a3 A.subs.length cap3])], (agree_cons (look_right rfl hv5349) (agree_cons (look_right rfl hv5350) (agree_cons (look_right rfl hv5351) (agree_nil _)))), ?_⟩
              refine WL.call rfl rfl rfl Ty.ent14 (Same_ok _ _ _ _ _ t1146 A (hn1146.ext hE1) (h1147.ext hE1)) ?_
              rintro _ w5353 ⟨he, hE5352⟩
              have hq : (Nd.light t1146 && Nd.light A && Nd.same t1146 A) = true := (by rw [h0t1146]; exact Nd.Same_self hfA.light)
              rw [hq] at he
              subst he
              clear hq
              have hzhE5352 := hE5352.size
              refine ⟨_, rfl, ?_⟩
              refine WL.nil (fun a_ ha => ?_)
              exact ⟨_, β, ha, hE5352, BExt.refl _ _, hbi.ext hE5352, rfl⟩
            · intro σ β w1 hE1 hbi hk
              have hz1 := hE1.size
              obtain ⟨_, hv5449, rfl⟩ := hk 25 (by kernel_rfl) _ _ rfl rfl
              obtain ⟨_, hv5450, rfl⟩ := hk 31 (by kernel_rfl) _ _ rfl rfl
              refine ⟨[(107, .bool true), (113, .bool true)], (agree_cons (look_right rfl hv5449) (agree_cons (look_right rfl hv5450) (agree_nil _))), ?_⟩
              refine WL.pick_t rfl rfl rfl rfl ?_
              refine WL.nil (fun a_ ha => ?_)
              exact ⟨_, β, ha, (Ext.refl _), BExt.refl _ _, hbi.ext (Ext.refl _), rfl⟩
            · intro σ β w1 hE1 hbi hk
              have hz1 := hE1.size
              obtain ⟨_, hv5549, rfl⟩ := hk 32 (by kernel_rfl) _ _ rfl rfl
              refine ⟨[(114, .bool true)], (agree_cons (look_right rfl hv5549) (agree_nil _)), ?_⟩
              refine WL.move rfl rfl rfl ?_
              refine WL.nil (fun a_ ha => ?_)
              exact ⟨_, β, ha, (Ext.refl _), BExt.refl _ _, hbi.ext (Ext.refl _), rfl⟩
            · intro σ β w1 hE1 hbi hk
              have hz1 := hE1.size
              obtain ⟨_, hv5649, rfl⟩ := hk 33 (by kernel_rfl) _ _ rfl rfl
              refine ⟨[(115, .bool true)], (agree_cons (look_right rfl hv5649) (agree_nil _)), ?_⟩
              refine WL.load_box rfl rfl rfl (hR934.ext hE1) Ty.agg29 ?_
              refine WL.nil (fun a_ ha => ?_)
              exact ⟨_, β, ha, (Ext.refl _), BExt.refl _ _, hbi.ext (Ext.refl _), rfl⟩
            · intro σ β w1 hE1 hbi hk
              have hz1 := hE1.size
              obtain ⟨_, hv5749, rfl⟩ := hk 33 (by kernel_rfl) _ _ rfl rfl
              obtain ⟨_, hv5750, rfl⟩ := hk 34 (by kernel_rfl) _ _ rfl rfl
              refine ⟨[(115, .bool true), (116, .agg #[.int .u8 (Nd.times A mn mx).kind, .int .u64 (Nd.times A mn mx).set.a, .int .u64 (Nd.times A mn mx).set.b, .int .u64 (Nd.times A mn mx).set.c, .int .u64 (Nd.times A mn mx).set.d, .int .i64 (Nd.times A mn mx).least, .int .i64 (Nd.times A mn mx).most, .slice (some ⟨eb1146, eo1146, none⟩) (Nd.times A mn mx).subs.length cap925])], (agree_cons (look_right rfl hv5749) (agree_cons (look_right rfl hv5750) (agree_nil _))), ?_⟩
              refine WL.call rfl rfl rfl Ty.ent15 (Positions_ok _ _ _ _ (h1148.ext hE1)) ?_
              rintro _ w5752 ⟨rfl, hE5751⟩
              have hzhE5751 := hE5751.size
              refine ⟨_, rfl, ?_⟩
              refine WL.nil (fun a_ ha => ?_)
              exact ⟨_, β, ha, hE5751, BExt.refl _ _, hbi.ext hE5751, rfl⟩
            · intro σ β w1 hE1 hbi hk
              have hz1 := hE1.size
              obtain ⟨_, hv5849, rfl⟩ := hk 33 (by kernel_rfl) _ _ rfl rfl
              refine ⟨[(115, .bool true)], (agree_cons (look_right rfl hv5849) (agree_nil _)), ?_⟩
              refine WL.move rfl rfl rfl ?_
              refine WL.nil (fun a_ ha => ?_)
              exact ⟨_, β, ha, (Ext.refl _), BExt.refl _ _, hbi.ext (Ext.refl _), rfl⟩
            · intro σ β w1 hE1 hbi hk
              have hz1 := hE1.size
              obtain ⟨_, hv5949, rfl⟩ := hk 33 (by kernel_rfl) _ _ rfl rfl
              refine ⟨[(115, .bool true)], (agree_cons (look_right rfl hv5949) (agree_nil _)), ?_⟩
              refine WL.load_box rfl rfl rfl (h1090.ext hE1) Ty.agg29 ?_
              refine WL.nil (fun a_ ha => ?_)
              exact ⟨_, β, ha, (Ext.refl _), BExt.refl _ _, hbi.ext (Ext.refl _), rfl⟩
            · intro σ β w1 hE1 hbi hk
              have hz1 := hE1.size
              obtain ⟨_, hv6049, rfl⟩ := hk 33 (by kernel_rfl) _ _ rfl rfl
              obtain ⟨_, hv6050, rfl⟩ := hk 37 (by kernel_rfl) _ _ rfl rfl
              refine ⟨[(115, .bool true), (119, .agg #[.int .u8 A.kind, .int .u64 A.set.a, .int .u64 A.set.b, .int .u64 A.set.c, .int .u64 A.set.d, .int .i64 A.least, .int .i64 A.most, .slice a3 A.subs.length cap3])], (agree_cons (look_right rfl hv6049) (agree_cons (look_right rfl hv6050) (agree_nil _))), ?_⟩
              refine WL.call rfl rfl rfl Ty.ent15 (Positions_ok _ _ _ _ (h1147.ext hE1)) ?_
              rintro _ w6052 ⟨rfl, hE6051⟩
              have hzhE6051 := hE6051.size
              refine ⟨_, rfl, ?_⟩
              refine WL.nil (fun a_ ha => ?_)
              exact ⟨_, β, ha, hE6051, BExt.refl _ _, hbi.ext hE6051, rfl⟩
            · intro σ β w1 hE1 hbi hk
              have hz1 := hE1.size
              obtain ⟨_, hv6149, rfl⟩ := hk 33 (by kernel_rfl) _ _ rfl rfl
              obtain ⟨_, hv6150, rfl⟩ := hk 36 (by kernel_rfl) _ _ rfl rfl
              obtain ⟨_, hv6151, rfl⟩ := hk 38 (by kernel_rfl) _ _ rfl rfl
              refine ⟨[(115, .bool true), (118, .int .i64 (Nd.max3 mn mx 1)), (120, .int .i64 (Nd.posns A))], (agree_cons (look_right rfl hv6149) (agree_cons (look_right rfl hv6150) (agree_cons (look_right rfl hv6151) (agree_nil _)))), ?_⟩
              refine WL.mul (v := Nd.max3 mn mx 1 * (Nd.posns A)) rfl rfl rfl rfl (IntWalk.i64_in _ (by have h1 := Nd.tms_eq (mn := mn) (mx := mx) (by omega) (by omega); have := Nd.mul_le16 h1.2.1 h1.2.2 hpA.1 hpA.2; omega)) ?_
              refine WL.nil (fun a_ ha => ?_)
              exact ⟨_, β, ha, (Ext.refl _), BExt.refl _ _, hbi.ext (Ext.refl _), rfl⟩
            · intro σ β w1 hE1 hbi hk
              have hz1 := hE1.size
              obtain ⟨_, hv6249, rfl⟩ := hk 33 (by kernel_rfl) _ _ rfl rfl
              obtain ⟨_, hv6250, rfl⟩ := hk 35 (by kernel_rfl) _ _ rfl rfl
              obtain ⟨_, hv6251, rfl⟩ := hk 39 (by kernel_rfl) _ _ rfl rfl
              refine ⟨[(115, .bool true), (117, .int .i64 (Nd.posns (Nd.times A mn mx))), (121, .int .i64 (Nd.max3 mn mx 1 * (Nd.posns A)))], (agree_cons (look_right rfl hv6249) (agree_cons (look_right rfl hv6250) (agree_cons (look_right rfl hv6251) (agree_nil _)))), ?_⟩
              refine WL.eql (b := true) rfl rfl rfl rfl (by rw [(Nd.times_rep hfA (by omega) (by omega) (by omega) (by omega)), Nd.rep_posns hmA (by omega) (by omega) (by omega) (by omega)]; exact beq_self_eq_true _) ?_
              refine WL.nil (fun a_ ha => ?_)
              exact ⟨_, β, ha, (Ext.refl _), BExt.refl _ _, hbi.ext (Ext.refl _), rfl⟩
            · intro σ β w1 hE1 hbi hk
              have hz1 := hE1.size
              obtain ⟨_, hv6349, rfl⟩ := hk 33 (by kernel_rfl) _ _ rfl rfl
              obtain ⟨_, hv6350, rfl⟩ := hk 40 (by kernel_rfl) _ _ rfl rfl
              refine ⟨[(115, .bool true), (122, .bool true)], (agree_cons (look_right rfl hv6349) (agree_cons (look_right rfl hv6350) (agree_nil _))), ?_⟩
              refine WL.pick_t rfl rfl rfl rfl ?_
              refine WL.nil (fun a_ ha => ?_)
              exact ⟨_, β, ha, (Ext.refl _), BExt.refl _ _, hbi.ext (Ext.refl _), rfl⟩
            · intro σ β w1 hE1 hbi hk
              have hz1 := hE1.size
              obtain ⟨_, hv6449, rfl⟩ := hk 41 (by kernel_rfl) _ _ rfl rfl
              refine ⟨[(123, .bool true)], (agree_cons (look_right rfl hv6449) (agree_nil _)), ?_⟩
              refine WL.move rfl rfl rfl ?_
              refine WL.nil (fun a_ ha => ?_)
              exact ⟨_, β, ha, (Ext.refl _), BExt.refl _ _, hbi.ext (Ext.refl _), rfl⟩
            · intro σ β w1 hE1 hbi hk
              have hz1 := hE1.size
              obtain ⟨_, hv6549, rfl⟩ := hk 42 (by kernel_rfl) _ _ rfl rfl
              refine ⟨[(124, .bool true)], (agree_cons (look_right rfl hv6549) (agree_nil _)), ?_⟩
              refine WL.load_box rfl rfl rfl (hR934.ext hE1) Ty.agg29 ?_
              refine WL.nil (fun a_ ha => ?_)
              exact ⟨_, β, ha, (Ext.refl _), BExt.refl _ _, hbi.ext (Ext.refl _), rfl⟩
            · intro σ β w1 hE1 hbi hk
              have hz1 := hE1.size
              obtain ⟨_, hv6649, rfl⟩ := hk 42 (by kernel_rfl) _ _ rfl rfl
              obtain ⟨_, hv6650, rfl⟩ := hk 43 (by kernel_rfl) _ _ rfl rfl
              refine ⟨[(124, .bool true), (125, .agg #[.int .u8 (Nd.times A mn mx).kind, .int .u64 (Nd.times A mn mx).set.a, .int .u64 (Nd.times A mn mx).set.b, .int .u64 (Nd.times A mn mx).set.c, .int .u64 (Nd.times A mn mx).set.d, .int .i64 (Nd.times A mn mx).least, .int .i64 (Nd.times A mn mx).most, .slice (some ⟨eb1146, eo1146, none⟩) (Nd.times A mn mx).subs.length cap925])], (agree_cons (look_right rfl hv6649) (agree_cons (look_right rfl hv6650) (agree_nil _))), ?_⟩
              refine WL.call rfl rfl rfl Ty.ent16 (size_ok _ _ _ _ (h1148.ext hE1)) ?_
              rintro _ w6652 ⟨rfl, hE6651⟩
              have hzhE6651 := hE6651.size
              refine ⟨_, rfl, ?_⟩
              refine WL.nil (fun a_ ha => ?_)
              exact ⟨_, β, ha, hE6651, BExt.refl _ _, hbi.ext hE6651, rfl⟩
            · intro σ β w1 hE1 hbi hk
              have hz1 := hE1.size
              obtain ⟨_, hv6749, rfl⟩ := hk 42 (by kernel_rfl) _ _ rfl rfl
              refine ⟨[(124, .bool true)], (agree_cons (look_right rfl hv6749) (agree_nil _)), ?_⟩
              refine WL.load_box rfl rfl rfl (h1090.ext hE1) Ty.agg29 ?_
              refine WL.nil (fun a_ ha => ?_)
              exact ⟨_, β, ha, (Ext.refl _), BExt.refl _ _, hbi.ext (Ext.refl _), rfl⟩
            · intro σ β w1 hE1 hbi hk
              have hz1 := hE1.size
              obtain ⟨_, hv6849, rfl⟩ := hk 42 (by kernel_rfl) _ _ rfl rfl
              obtain ⟨_, hv6850, rfl⟩ := hk 45 (by kernel_rfl) _ _ rfl rfl
              refine ⟨[(124, .bool true), (127, .agg #[.int .u8 A.kind, .int .u64 A.set.a, .int .u64 A.set.b, .int .u64 A.set.c, .int .u64 A.set.d, .int .i64 A.least, .int .i64 A.most, .slice a3 A.subs.length cap3])], (agree_cons (look_right rfl hv6849) (agree_cons (look_right rfl hv6850) (agree_nil _))), ?_⟩
              refine WL.call rfl rfl rfl Ty.ent16 (size_ok _ _ _ _ (h1147.ext hE1)) ?_
              rintro _ w6852 ⟨rfl, hE6851⟩
              have hzhE6851 := hE6851.size
              refine ⟨_, rfl, ?_⟩
              refine WL.nil (fun a_ ha => ?_)
              exact ⟨_, β, ha, hE6851, BExt.refl _ _, hbi.ext hE6851, rfl⟩
            · intro σ β w1 hE1 hbi hk
              have hz1 := hE1.size
              obtain ⟨_, hv6949, rfl⟩ := hk 42 (by kernel_rfl) _ _ rfl rfl
              obtain ⟨_, hv6950, rfl⟩ := hk 46 (by kernel_rfl) _ _ rfl rfl
              refine ⟨[(124, .bool true), (128, .int .i64 (Nd.sizes A))], (agree_cons (look_right rfl hv6949) (agree_cons (look_right rfl hv6950) (agree_nil _))), ?_⟩
              refine WL.add (v := 1 + (Nd.sizes A)) rfl rfl rfl rfl (IntWalk.i64_in _ (by omega)) ?_
              refine WL.nil (fun a_ ha => ?_)
              exact ⟨_, β, ha, (Ext.refl _), BExt.refl _ _, hbi.ext (Ext.refl _), rfl⟩
            · intro σ β w1 hE1 hbi hk
              have hz1 := hE1.size
              obtain ⟨_, hv7049, rfl⟩ := hk 42 (by kernel_rfl) _ _ rfl rfl
              obtain ⟨_, hv7050, rfl⟩ := hk 44 (by kernel_rfl) _ _ rfl rfl
              obtain ⟨_, hv7051, rfl⟩ := hk 47 (by kernel_rfl) _ _ rfl rfl
              refine ⟨[(124, .bool true), (126, .int .i64 (Nd.sizes (Nd.times A mn mx))), (129, .int .i64 (1 + (Nd.sizes A)))], (agree_cons (look_right rfl hv7049) (agree_cons (look_right rfl hv7050) (agree_cons (look_right rfl hv7051) (agree_nil _)))), ?_⟩
              refine WL.eql (b := true) rfl rfl rfl rfl (by rw [(Nd.times_rep hfA (by omega) (by omega) (by omega) (by omega)), Nd.rep_sizes hmA (by omega) (by omega) (by omega) (by omega)]; exact beq_self_eq_true _) ?_
              refine WL.nil (fun a_ ha => ?_)
              exact ⟨_, β, ha, (Ext.refl _), BExt.refl _ _, hbi.ext (Ext.refl _), rfl⟩
            · intro σ β w1 hE1 hbi hk
              have hz1 := hE1.size
              obtain ⟨_, hv7149, rfl⟩ := hk 42 (by kernel_rfl) _ _ rfl rfl
              obtain ⟨_, hv7150, rfl⟩ := hk 48 (by kernel_rfl) _ _ rfl rfl
              refine ⟨[(124, .bool true), (130, .bool true)], (agree_cons (look_right rfl hv7149) (agree_cons (look_right rfl hv7150) (agree_nil _))), ?_⟩
              refine WL.pick_t rfl rfl rfl rfl ?_
              refine WL.nil (fun a_ ha => ?_)
              exact ⟨_, β, ha, (Ext.refl _), BExt.refl _ _, hbi.ext (Ext.refl _), rfl⟩
            intro σ β w2048 hE2048 hbi2048 hk
            have hz2048 := hE2048.size
            have hbi := hbi2048
            obtain ⟨_, hv2049, rfl⟩ := hk 49 (by decide) _ _ rfl rfl
            refine WL.know [(131, .bool true)] (agree_cons (look_right rfl hv2049) (agree_nil _)) ?_
            refine WL.assign rfl rfl rfl ?_
            refine WL.done' ?_ (fun _ _ h => h)
            refine WC.ret (fun a_ ha => ?_)
            exact bodyPost_tmp rfl ha rfl ⟨rfl, ((hB935.onto ((((((hB13.onto ((hE1.trans hE4).trans hE10) (by omega)).trans hE915).trans hE918).trans hE923).trans hE926).trans hE932) (by omega)).trans hE2048)⟩
        | true =>
          refine WL.eql rfl rfl rfl rfl hc1091 ?_
          have hp1091 := beq_iff_eq.1 hc1091
          refine WL.move rfl rfl rfl ?_
          refine WL.pass rfl rfl ?_
          refine WL.pass rfl rfl ?_
          refine WL.pick_t rfl rfl rfl rfl ?_
          refine WL.done' ?_ (fun _ _ h => h)
          refine WC.cond_t rfl ?_
          refine WC.seqk ?_
          refine WC.weaken (r' := [(1, .int .i64 mn), (2, .int .i64 mx), (6, .bool false), (12, .bool false), (7, .pointer (some ⟨b6, 0, none⟩)), (25, .bool false), (8, .pointer (some ⟨b928, 0, none⟩)), (50, .bool false), (66, .bool true)]) (subReg_cons rfl (subReg_cons rfl (subReg_cons rfl (subReg_cons rfl (subReg_cons rfl (subReg_cons rfl (subReg_cons rfl (subReg_cons rfl (subReg_cons rfl (subReg_nil _)))))))))) ?_
          refine WC.region ?_
          refine WL.fieldAddr rfl rfl Ty.fld29_0 rfl ?_
          refine WL.load_fld rfl rfl Ty.flat5 rfl hR934 rfl ?_
          refine WL.eql (b := true) rfl rfl rfl rfl (by rw [Nd.times_empty hfA (by omega) (by omega)]; rfl) ?_
          refine WL.assign rfl rfl rfl ?_
          refine WL.done' ?_ (fun _ _ h => h)
          refine WC.ret (fun a_ ha => ?_)
          refine ret_then ?_
          exact bodyPost_tmp rfl ha rfl ⟨rfl, (hB935.onto ((((((hB13.onto ((hE1.trans hE4).trans hE10) (by omega)).trans hE915).trans hE918).trans hE923).trans hE926).trans hE932) (by omega))⟩

end Go.Proofs.Ytaggidjijekpbaa
