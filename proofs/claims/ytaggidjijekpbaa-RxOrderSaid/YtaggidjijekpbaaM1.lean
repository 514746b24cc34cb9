/- Walks through the program's functions: each computes what the plain Lean function says. Printed by our own gen/r8.py. -/
import Derived.Test.YtaggidjijekpbaaApp
import Derived.Test.YtaggidjijekpbaaTy
import Derived.Test.YtaggidjijekpbaaSets
import Derived.KernelRfl
namespace Go.Proofs.Ytaggidjijekpbaa
open Go.Proofs Go.RowKit

set_option maxRecDepth 20000 in
set_option maxHeartbeats 4000000 in
theorem or1_ok (a b : Int) (w : World) :
    Calls Try.prog 67 #[.int .u64 a, .int .u64 b] w fun e w' => e = .returned (.int .u64 (Nd.orI a b)) ∧ Ext w w' := by
  refine Calls.enter (args := [.int .u64 a, .int .u64 b]) Try.func67 rfl rfl rfl rfl ?_
  refine WC.seqk ?_
  refine WC.region ?_
  refine WL.assign rfl rfl rfl ?_
  refine WL.done' ?_ (fun _ _ h => h)
  refine WC.seqk ?_
  refine WC.region ?_
  refine WL.move rfl rfl rfl ?_
  refine WL.move rfl rfl rfl ?_
  refine WL.or (v := Nd.orI a b) rfl rfl rfl rfl rfl ?_
  refine WL.assign rfl rfl rfl ?_
  refine WL.done' ?_ (fun _ _ h => h)
  refine WC.ret (fun a_ ha => ?_)
  exact bodyPost_tmp rfl ha rfl ⟨rfl, (Ext.refl _)⟩

set_option maxRecDepth 20000 in
set_option maxHeartbeats 4000000 in
theorem less1_ok (a b : Int) (w : World) :
    Calls Try.prog 68 #[.int .u64 a, .int .u64 b] w fun e w' => e = .returned (.int .u64 (Nd.lessI a b)) ∧ Ext w w' := by
  refine Calls.enter (args := [.int .u64 a, .int .u64 b]) Try.func68 rfl rfl rfl rfl ?_
  refine WC.seqk ?_
  refine WC.region ?_
  refine WL.assign rfl rfl rfl ?_
  refine WL.done' ?_ (fun _ _ h => h)
  refine WC.seqk ?_
  refine WC.region ?_
  refine WL.move rfl rfl rfl ?_
  refine WL.move rfl rfl rfl ?_
  refine WL.andNot (v := Nd.lessI a b) rfl rfl rfl rfl rfl ?_
  refine WL.assign rfl rfl rfl ?_
  refine WL.done' ?_ (fun _ _ h => h)
  refine WC.ret (fun a_ ha => ?_)
  exact bodyPost_tmp rfl ha rfl ⟨rfl, (Ext.refl _)⟩

set_option maxRecDepth 20000 in
set_option maxHeartbeats 4000000 in
theorem each_ok (w : World) (s t : S4) (fn : Nat) (f : Int → Int → Int) (hf : ∀ (a b : Int) (w' : World), Calls Try.prog fn #[.int .u64 a, .int .u64 b] w' fun e w'' => e = .returned (.int .u64 (f a b)) ∧ Ext w' w'') (hent : ∀ vs w, (callFunc fn vs).run Try.prog w = .ok (.enter fn vs) w) :
    Calls Try.prog 66 #[.agg #[.int .u64 s.a, .int .u64 s.b, .int .u64 s.c, .int .u64 s.d], .agg #[.int .u64 t.a, .int .u64 t.b, .int .u64 t.c, .int .u64 t.d], .func (.func fn) #[] #[]] w fun e w' => e = .returned (.agg (scells (Nd.eachS f s t)).toArray) ∧ Ext w w' := by
  refine Calls.enter (args := [.agg #[.int .u64 s.a, .int .u64 s.b, .int .u64 s.c, .int .u64 s.d], .agg #[.int .u64 t.a, .int .u64 t.b, .int .u64 t.c, .int .u64 t.d], .func (.func fn) #[] #[]]) Try.func66 rfl rfl rfl rfl ?_
  refine WC.seqk ?_
  refine WC.region ?_
  refine WL.box_agg rfl rfl rfl (fun b1 w6 hb2 hE5 hs3 hR4 => ?_)
  refine WL.box_agg rfl rfl rfl (fun b7 w12 hb8 hE11 hs9 hR10 => ?_)
  refine WL.alloc rfl rfl Ty.zero26 rfl (fun b13 w18 hb14 hE17 hs15 hR16 => ?_)
  refine WL.done' ?_ (fun _ _ h => h)
  refine WC.seqk ?_
  refine WC.region ?_
  refine WL.alloc rfl rfl Ty.zero26 rfl (fun b19 w24 hb20 hE23 hs21 hR22 => ?_)
  refine WL.done' ?_ (fun _ _ h => h)
  refine WC.seqk ?_
  refine WC.seqk ?_
  refine WC.region ?_
  refine WL.move rfl rfl rfl ?_
  refine WL.done' ?_ (fun _ _ h => h)
  refine WC.block ?_
  have h25 := (((hR4.ext hE11).ext hE17).ext hE23)
  have h26 := ((hR10.ext hE17).ext hE23)
  refine WC.weaken (r' := [(2, .func (.func fn) #[] #[]), (3, .pointer (some ⟨b1, 0, none⟩)), (4, .pointer (some ⟨b7, 0, none⟩)), (6, .pointer (some ⟨b13, 0, none⟩)), (7, .pointer (some ⟨b19, 0, none⟩)), (9, .int .i64 0)]) (subReg_cons rfl (subReg_cons rfl (subReg_cons rfl (subReg_cons rfl (subReg_cons rfl (subReg_cons rfl (subReg_nil _))))))) ?_
  refine WC.loop (σ := Nat) (fun k r_ w_ => r_ = [(2, .func (.func fn) #[] #[]), (3, .pointer (some ⟨b1, 0, none⟩)), (4, .pointer (some ⟨b7, 0, none⟩)), (6, .pointer (some ⟨b13, 0, none⟩)), (7, .pointer (some ⟨b19, 0, none⟩)), (9, .int .i64 (k : Int))] ∧ Ext w w_ ∧ (k ≤ 4 ∧ Row w_ b1 [.int .u64 s.a, .int .u64 s.b, .int .u64 s.c, .int .u64 s.d] 26 ∧ Row w_ b7 [.int .u64 t.a, .int .u64 t.b, .int .u64 t.c, .int .u64 t.d] 26 ∧ Row w_ b13 [.int .u64 0, .int .u64 0, .int .u64 0, .int .u64 0] 26 ∧ Row w_ b19 (scells (Nd.eachK f s t k)) 26)) (fun k => 4 - k) 0 ⟨rfl, (((hE5.trans hE11).trans hE17).trans hE23), ⟨Nat.zero_le _, h25, h26, (hR16.ext hE23), hR22⟩⟩ ?_
  rintro k r_ w29 ⟨rfl, hE27, hI28⟩
  have hzhE27 := hE27.size
  obtain ⟨hk, hR3, hR4, hR6, hR7⟩ := hI28
  refine WC.seqk ?_
  refine WC.region ?_
  cases hc30 : decide (((k : Int) : Int) < 4) with
  | false =>
    refine WL.lss rfl rfl rfl rfl hc30 ?_
    have hp30 := of_decide_eq_false hc30
    refine WL.done' ?_ (fun _ _ h => h)
    refine WC.seqk ?_
    refine WC.cond_f rfl ?_
    refine WC.exit (fun a_ ha => ?_)
    refine exit_then ?_
    refine exit_then ?_
    refine exit_here ?_
    refine WC.at ?_ ha
    refine WC.seqk ?_
    refine WC.region ?_
    refine WL.load_box rfl rfl rfl hR7 Ty.agg26 ?_
    refine WL.store_box rfl rfl rfl hR6 Ty.agg26 rfl rfl (fun w33 hB32 hR31 => ?_)
    have hzhB32 := hB32.size
    refine WL.done' ?_ (fun _ _ h => h)
    refine WC.ret (fun a_ ha => ?_)
    have hkk : k = 4 := by omega
    subst hkk
    exact bodyPost_cell (l := [.int .u64 (Nd.eachK f s t 4).a, .int .u64 (Nd.eachK f s t 4).b, .int .u64 (Nd.eachK f s t 4).c, .int .u64 (Nd.eachK f s t 4).d]) rfl ha rfl Ty.agg26 hR31 ⟨rfl, (hB32.onto hE27 (by omega))⟩
  | true =>
    refine WL.lss rfl rfl rfl rfl hc30 ?_
    have hp30 := of_decide_eq_true hc30
    refine WL.done' ?_ (fun _ _ h => h)
    refine WC.seqk ?_
    refine WC.cond_t rfl ?_
    refine WC.skip'' ?_ (fun _ _ h => h)
    refine WC.seqk ?_
    refine WC.block ?_
    refine WC.seqk ?_
    refine WC.region ?_
    refine WL.move rfl rfl rfl ?_
    refine WL.assign rfl rfl rfl ?_
    refine WL.done' ?_ (fun _ _ h => h)
    have hk4 : k < 4 := by omega
    refine WC.weaken (r' := [(2, .func (.func fn) #[] #[]), (3, .pointer (some ⟨b1, 0, none⟩)), (4, .pointer (some ⟨b7, 0, none⟩)), (6, .pointer (some ⟨b13, 0, none⟩)), (7, .pointer (some ⟨b19, 0, none⟩)), (9, .int .i64 (k : Int)), (10, .bool true), (11, .int .i64 (k : Int)), (8, .int .i64 (k : Int))]) (subReg_cons rfl (subReg_cons rfl (subReg_cons rfl (subReg_cons rfl (subReg_cons rfl (subReg_cons rfl (subReg_cons rfl (subReg_cons rfl (subReg_cons rfl (subReg_nil _)))))))))) ?_
    refine WC.draw 9 [12, 13, 14, 15, 16, 17, 18, 19, 20] [pc (.int .i64 (k : Int)), pc (.func (.func fn) #[] #[]), pc (.int .i64 (k : Int)), pc (.pointer (some ⟨b1, 0 + k * 1, none⟩)), pc (.int .u64 (Nd.S4get s k)), pc (.int .i64 (k : Int)), pc (.pointer (some ⟨b7, 0 + k * 1, none⟩)), pc (.int .u64 (Nd.S4get t k)), pc (.int .u64 (f (Nd.S4get s k) (Nd.S4get t k)))] (by kernel_rfl) (by kernel_rfl) ⟨KW_pc _, KW_pc _, KW_pc _, KW_pc _, KW_pc _, KW_pc _, KW_pc _, KW_pc _, KW_pc _, trivial⟩ rfl rfl rfl (StepsOn.cons ?_ (StepsOn.cons ?_ (StepsOn.cons ?_ (StepsOn.cons ?_ (StepsOn.cons ?_ (StepsOn.cons ?_ (StepsOn.cons ?_ (StepsOn.cons ?_ (StepsOn.cons ?_ (StepsOn.nil _)))))))))) ?_
    · intro σ β w1 hE1 hbi hk
      have hz1 := hE1.size
      refine ⟨[], (agree_nil _), ?_⟩
      refine WL.move rfl rfl rfl ?_
      refine WL.nil (fun a_ ha => ?_)
      exact ⟨_, β, ha, (Ext.refl _), BExt.refl _ _, hbi.ext (Ext.refl _), rfl⟩
    · intro σ β w1 hE1 hbi hk
      have hz1 := hE1.size
      refine ⟨[], (agree_nil _), ?_⟩
      refine WL.move rfl rfl rfl ?_
      refine WL.nil (fun a_ ha => ?_)
      exact ⟨_, β, ha, (Ext.refl _), BExt.refl _ _, hbi.ext (Ext.refl _), rfl⟩
    · intro σ β w1 hE1 hbi hk
      have hz1 := hE1.size
      refine ⟨[], (agree_nil _), ?_⟩
      refine WL.move rfl rfl rfl ?_
      refine WL.nil (fun a_ ha => ?_)
      exact ⟨_, β, ha, (Ext.refl _), BExt.refl _ _, hbi.ext (Ext.refl _), rfl⟩
    · intro σ β w1 hE1 hbi hk
      have hz1 := hE1.size
      obtain ⟨_, hv1481, rfl⟩ := hk 2 (by kernel_rfl) _ _ rfl rfl
      refine ⟨[(14, .int .i64 (k : Int))], (agree_cons (look_right rfl hv1481) (agree_nil _)), ?_⟩
      refine WL.indexAddrA (i := k) rfl rfl Ty.arr26 rfl rfl rfl hk4 ?_
      refine WL.nil (fun a_ ha => ?_)
      exact ⟨_, β, ha, (Ext.refl _), BExt.refl _ _, hbi.ext (Ext.refl _), rfl⟩
    · intro σ β w1 hE1 hbi hk
      have hz1 := hE1.size
      obtain ⟨_, hv1581, rfl⟩ := hk 3 (by kernel_rfl) _ _ rfl rfl
      refine ⟨[(15, .pointer (some ⟨b1, 0 + k * 1, none⟩))], (agree_cons (look_right rfl hv1581) (agree_nil _)), ?_⟩
      refine WL.load_fld (v := .int .u64 (Nd.S4get s k)) rfl rfl Ty.flat24 rfl (hR3.ext hE1) (scells_get _ _ hk4) ?_
      refine WL.nil (fun a_ ha => ?_)
      exact ⟨_, β, ha, (Ext.refl _), BExt.refl _ _, hbi.ext (Ext.refl _), rfl⟩
    · intro σ β w1 hE1 hbi hk
      have hz1 := hE1.size
      refine ⟨[], (agree_nil _), ?_⟩
      refine WL.move rfl rfl rfl ?_
      refine WL.nil (fun a_ ha => ?_)
      exact ⟨_, β, ha, (Ext.refl _), BExt.refl _ _, hbi.ext (Ext.refl _), rfl⟩
    · intro σ β w1 hE1 hbi hk
      have hz1 := hE1.size
      obtain ⟨_, hv1781, rfl⟩ := hk 5 (by kernel_rfl) _ _ rfl rfl
      refine ⟨[(17, .int .i64 (k : Int))], (agree_cons (look_right rfl hv1781) (agree_nil _)), ?_⟩
      refine WL.indexAddrA (i := k) rfl rfl Ty.arr26 rfl rfl rfl hk4 ?_
      refine WL.nil (fun a_ ha => ?_)
      exact ⟨_, β, ha, (Ext.refl _), BExt.refl _ _, hbi.ext (Ext.refl _), rfl⟩
    · intro σ β w1 hE1 hbi hk
      have hz1 := hE1.size
      obtain ⟨_, hv1881, rfl⟩ := hk 6 (by kernel_rfl) _ _ rfl rfl
      refine ⟨[(18, .pointer (some ⟨b7, 0 + k * 1, none⟩))], (agree_cons (look_right rfl hv1881) (agree_nil _)), ?_⟩
      refine WL.load_fld (v := .int .u64 (Nd.S4get t k)) rfl rfl Ty.flat24 rfl (hR4.ext hE1) (scells_get _ _ hk4) ?_
      refine WL.nil (fun a_ ha => ?_)
      exact ⟨_, β, ha, (Ext.refl _), BExt.refl _ _, hbi.ext (Ext.refl _), rfl⟩
    · intro σ β w1 hE1 hbi hk
      have hz1 := hE1.size
      obtain ⟨_, hv1981, rfl⟩ := hk 1 (by kernel_rfl) _ _ rfl rfl
      obtain ⟨_, hv1982, rfl⟩ := hk 4 (by kernel_rfl) _ _ rfl rfl
      obtain ⟨_, hv1983, rfl⟩ := hk 7 (by kernel_rfl) _ _ rfl rfl
      refine ⟨[(13, .func (.func fn) #[] #[]), (16, .int .u64 (Nd.S4get s k)), (19, .int .u64 (Nd.S4get t k))], (agree_cons (look_right rfl hv1981) (agree_cons (look_right rfl hv1982) (agree_cons (look_right rfl hv1983) (agree_nil _)))), ?_⟩
      refine WL.callv rfl rfl rfl rfl hent (hf (Nd.S4get s k) (Nd.S4get t k) _) ?_
      rintro _ w1985 ⟨rfl, hE1984⟩
      have hzhE1984 := hE1984.size
      refine ⟨_, rfl, ?_⟩
      refine WL.nil (fun a_ ha => ?_)
      exact ⟨_, β, ha, hE1984, BExt.refl _ _, hbi.ext hE1984, rfl⟩
    intro σ β w980 hE980 hbi980 hk
    have hz980 := hE980.size
    have hbi := hbi980
    obtain ⟨_, hv981, rfl⟩ := hk 0 (by decide) _ _ rfl rfl
    obtain ⟨_, hv982, rfl⟩ := hk 8 (by decide) _ _ rfl rfl
    refine WL.know [(12, .int .i64 (k : Int)), (20, .int .u64 (f (Nd.S4get s k) (Nd.S4get t k)))] (agree_cons (look_right rfl hv981) (agree_cons (look_right rfl hv982) (agree_nil _))) ?_
    refine WL.indexAddrA (i := k) rfl rfl Ty.arr26 rfl rfl rfl hk4 ?_
    refine WL.store_fld (new := [.int .u64 (Nd.eachK f s t (k + 1)).a, .int .u64 (Nd.eachK f s t (k + 1)).b, .int .u64 (Nd.eachK f s t (k + 1)).c, .int .u64 (Nd.eachK f s t (k + 1)).d]) rfl Ty.flat24 rfl rfl (hR7.ext hE980) rfl rfl (by simp; omega) (scells_put _ _ _ hk4) (fun w985 hB984 hR983 => ?_)
    have hzhB984 := hB984.size
    refine WL.done' ?_ (fun _ _ h => h)
    refine WC.region ?_
    refine WL.add (v := (k : Int) + 1) rfl rfl rfl rfl (IntWalk.i64_in _ (by omega)) ?_
    refine WL.move rfl rfl rfl ?_
    refine WL.nil (fun a_ ha => ?_)
    have h986 := (hB984.row (hR3.ext hE980) (by omega))
    have h987 := (hB984.row (hR4.ext hE980) (by omega))
    have h988 := (hB984.row (hR6.ext hE980) (by omega))
    exact ⟨k + 1, _, ha.weaken (subReg_cons rfl (subReg_cons rfl (subReg_cons rfl (subReg_cons rfl (subReg_cons rfl (subReg_cons rfl (subReg_nil _))))))), ⟨rfl, (hB984.onto (hE27.trans hE980) (by omega)), ⟨by omega, h986, h987, h988, hR983⟩⟩, by first | omega | (dsimp only; omega)⟩

set_option maxRecDepth 20000 in
set_option maxHeartbeats 4000000 in
theorem setOr_ok (w : World) (s t : S4) :
    Calls Try.prog 60 #[.agg #[.int .u64 s.a, .int .u64 s.b, .int .u64 s.c, .int .u64 s.d], .agg #[.int .u64 t.a, .int .u64 t.b, .int .u64 t.c, .int .u64 t.d]] w fun e w' => e = .returned (.agg (scells (Nd.orS s t)).toArray) ∧ Ext w w' := by
  refine Calls.enter (args := [.agg #[.int .u64 s.a, .int .u64 s.b, .int .u64 s.c, .int .u64 s.d], .agg #[.int .u64 t.a, .int .u64 t.b, .int .u64 t.c, .int .u64 t.d]]) Try.func60 rfl rfl rfl rfl ?_
  refine WC.seqk ?_
  refine WC.region ?_
  refine WL.box_agg rfl rfl rfl (fun b1 w6 hb2 hE5 hs3 hR4 => ?_)
  refine WL.box_agg rfl rfl rfl (fun b7 w12 hb8 hE11 hs9 hR10 => ?_)
  refine WL.alloc rfl rfl Ty.zero26 rfl (fun b13 w18 hb14 hE17 hs15 hR16 => ?_)
  refine WL.done' ?_ (fun _ _ h => h)
  refine WC.seqk ?_
  refine WC.region ?_
  have h19 := ((hR4.ext hE11).ext hE17)
  refine WL.load_box rfl rfl rfl h19 Ty.agg26 ?_
  refine WL.load_box rfl rfl rfl (hR10.ext hE17) Ty.agg26 ?_
  refine WL.call rfl rfl rfl Ty.ent66 (each_ok _ s t 67 Nd.orI (fun a b w2 => or1_ok a b w2) Ty.ent67) ?_
  rintro _ w21 ⟨rfl, hE20⟩
  have hzhE20 := hE20.size
  refine ⟨_, rfl, ?_⟩
  refine WL.store_box rfl rfl rfl (hR16.ext hE20) Ty.agg26 rfl rfl (fun w24 hB23 hR22 => ?_)
  have hzhB23 := hB23.size
  refine WL.done' ?_ (fun _ _ h => h)
  refine WC.ret (fun a_ ha => ?_)
  exact bodyPost_cell (l := [.int .u64 (Nd.orS s t).a, .int .u64 (Nd.orS s t).b, .int .u64 (Nd.orS s t).c, .int .u64 (Nd.orS s t).d]) rfl ha rfl Ty.agg26 hR22 ⟨rfl, (hB23.onto (((hE5.trans hE11).trans hE17).trans hE20) (by omega))⟩

set_option maxRecDepth 20000 in
set_option maxHeartbeats 4000000 in
theorem setLess_ok (w : World) (s t : S4) :
    Calls Try.prog 61 #[.agg #[.int .u64 s.a, .int .u64 s.b, .int .u64 s.c, .int .u64 s.d], .agg #[.int .u64 t.a, .int .u64 t.b, .int .u64 t.c, .int .u64 t.d]] w fun e w' => e = .returned (.agg (scells (Nd.lessS s t)).toArray) ∧ Ext w w' := by
  refine Calls.enter (args := [.agg #[.int .u64 s.a, .int .u64 s.b, .int .u64 s.c, .int .u64 s.d], .agg #[.int .u64 t.a, .int .u64 t.b, .int .u64 t.c, .int .u64 t.d]]) Try.func61 rfl rfl rfl rfl ?_
  refine WC.seqk ?_
  refine WC.region ?_
  refine WL.box_agg rfl rfl rfl (fun b1 w6 hb2 hE5 hs3 hR4 => ?_)
  refine WL.box_agg rfl rfl rfl (fun b7 w12 hb8 hE11 hs9 hR10 => ?_)
  refine WL.alloc rfl rfl Ty.zero26 rfl (fun b13 w18 hb14 hE17 hs15 hR16 => ?_)
  refine WL.done' ?_ (fun _ _ h => h)
  refine WC.seqk ?_
  refine WC.region ?_
  have h19 := ((hR4.ext hE11).ext hE17)
  refine WL.load_box rfl rfl rfl h19 Ty.agg26 ?_
  refine WL.load_box rfl rfl rfl (hR10.ext hE17) Ty.agg26 ?_
  refine WL.call rfl rfl rfl Ty.ent66 (each_ok _ s t 68 Nd.lessI (fun a b w2 => less1_ok a b w2) Ty.ent68) ?_
  rintro _ w21 ⟨rfl, hE20⟩
  have hzhE20 := hE20.size
  refine ⟨_, rfl, ?_⟩
  refine WL.store_box rfl rfl rfl (hR16.ext hE20) Ty.agg26 rfl rfl (fun w24 hB23 hR22 => ?_)
  have hzhB23 := hB23.size
  refine WL.done' ?_ (fun _ _ h => h)
  refine WC.ret (fun a_ ha => ?_)
  exact bodyPost_cell (l := [.int .u64 (Nd.lessS s t).a, .int .u64 (Nd.lessS s t).b, .int .u64 (Nd.lessS s t).c, .int .u64 (Nd.lessS s t).d]) rfl ha rfl Ty.agg26 hR22 ⟨rfl, (hB23.onto (((hE5.trans hE11).trans hE17).trans hE20) (by omega))⟩

set_option maxRecDepth 20000 in
set_option maxHeartbeats 4000000 in
theorem has1b_ok (w : World) (s : S4) (c : Nat) (hs : Nd.SOk s) (hc : c < 256) :
    Calls Try.prog 62 #[.agg #[.int .u64 s.a, .int .u64 s.b, .int .u64 s.c, .int .u64 s.d], .int .u8 (c : Int)] w fun e w' => e = .returned (.bool (Nd.sbit s c)) ∧ Ext w w' := by
  refine Calls.enter (args := [.agg #[.int .u64 s.a, .int .u64 s.b, .int .u64 s.c, .int .u64 s.d], .int .u8 (c : Int)]) Try.func62 rfl rfl rfl rfl ?_
  refine WC.seqk ?_
  refine WC.region ?_
  refine WL.box_agg rfl rfl rfl (fun b1 w6 hb2 hE5 hs3 hR4 => ?_)
  refine WL.assign rfl rfl rfl ?_
  refine WL.done' ?_ (fun _ _ h => h)
  refine WC.seqk ?_
  refine WC.region ?_
  refine WL.move rfl rfl rfl ?_
  refine WL.shr (v := ((c / 64 : Nat) : Int)) rfl rfl rfl rfl (Nd.shr6 ⟨c, hc⟩) ?_
  refine WL.indexAddrA (i := (c / 64)) rfl rfl Ty.arr26 rfl rfl rfl (by omega) ?_
  refine WL.load_fld (v := .int .u64 (Nd.S4get s (c / 64))) rfl rfl Ty.flat24 rfl hR4 (scells_get _ _ (by omega)) ?_
  refine WL.move rfl rfl rfl ?_
  refine WL.and (v := ((c % 64 : Nat) : Int)) rfl rfl rfl rfl (Nd.and63 ⟨c, hc⟩) ?_
  refine WL.shr (v := (Nd.S4get s (c / 64)).fdiv (2 ^ (min (c % 64) IntKind.u64.bits))) rfl rfl rfl rfl rfl ?_
  refine WL.and (v := Nd.andI ((Nd.S4get s (c / 64)).fdiv (2 ^ (min (c % 64) IntKind.u64.bits))) 1) rfl rfl rfl rfl rfl ?_
  refine WL.eql rfl rfl rfl rfl rfl ?_
  refine WL.assign rfl rfl rfl ?_
  refine WL.done' ?_ (fun _ _ h => h)
  refine WC.ret (fun a_ ha => ?_)
  exact bodyPost_tmp rfl ha rfl ⟨(by congr 2; exact Nd.hasI (Nd.S4get_ok hs _) (by omega)), hE5⟩

end Go.Proofs.Ytaggidjijekpbaa
