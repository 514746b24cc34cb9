/- Part 4 of the proof: walks through the program's functions, and what they compute in plain Lean. -/
import Derived.Test.YteenegaadlhjdaaOd3
import Derived.Shelf.SlSortCmp.WholeK
import Derived.Ground.SlsfProg
import Derived.KernelRfl
import Derived.Shelf.SlSortCmp.NoneTotal
import Derived.Laws.OwnMore
set_option linter.all false
namespace Go.Proofs
open Go.Shelf Go.RowKit Go.Lib Go.Sort
def Try.sortNd_ren : Go.Shelf.Ren := ⟨fun | 6 => 61 | 15 => 71 | 14 => 70 | 28 => 81 | 29 => 82 | 20 => 73 | 21 => 74 | 22 => 75 | 23 => 76 | 24 => 77 | 25 => 78 | 26 => 79 | 27 => 80 | 46 => 89 | 47 => 90 | 48 => 91 | 49 => 92 | 50 => 93 | 57 => 99 | n => n, fun | 22 => 24 | 24 => 30 | 25 => 77 | 3 => 3 | 39 => 84 | 0 => 0 | 53 => 94 | 55 => 26 | 4 => 4 | 46 => 87 | 45 => 86 | 50 => 91 | 5 => 5 | 9 => 9 | 66 => 102 | 70 => 106 | 76 => 114 | 77 => 115 | n => n, fun | n => n⟩
theorem Try.sortNd : Go.Proofs.SlLaysF0.n6 Try.prog Try.sortNd_ren := {
 mixed := by kernel_rfl
 f6 := ⟨Try.f61.name, by decide, Try.func61.trans (congrArg some (by kernel_rfl))⟩
 f14 := ⟨Try.f70.name, by decide, Try.func70.trans (congrArg some (by kernel_rfl))⟩
 f15 := Try.func71.trans (congrArg some (by kernel_rfl))
 f20 := ⟨Try.f73.name, by decide, Try.func73.trans (congrArg some (by kernel_rfl))⟩
 f21 := ⟨Try.f74.name, by decide, Try.func74.trans (congrArg some (by kernel_rfl))⟩
 f22 := ⟨Try.f75.name, by decide, Try.func75.trans (congrArg some (by kernel_rfl))⟩
 f23 := ⟨Try.f76.name, by decide, Try.func76.trans (congrArg some (by kernel_rfl))⟩
 f24 := ⟨Try.f77.name, by decide, Try.func77.trans (congrArg some (by kernel_rfl))⟩
 f25 := ⟨Try.f78.name, by decide, Try.func78.trans (congrArg some (by kernel_rfl))⟩
 f26 := ⟨Try.f79.name, by decide, Try.func79.trans (congrArg some (by kernel_rfl))⟩
 f27 := ⟨Try.f80.name, by decide, Try.func80.trans (congrArg some (by kernel_rfl))⟩
 f28 := Try.func81.trans (congrArg some (by kernel_rfl))
 f29 := Try.func82.trans (congrArg some (by kernel_rfl))
 f46 := ⟨Try.f89.name, by decide, Try.func89.trans (congrArg some (by kernel_rfl))⟩
 f47 := Try.func90.trans (congrArg some (by kernel_rfl))
 f48 := Try.func91.trans (congrArg some (by kernel_rfl))
 f49 := ⟨Try.f92.name, by decide, Try.func92.trans (congrArg some (by kernel_rfl))⟩
 f50 := ⟨Try.f93.name, by decide, Try.func93.trans (congrArg some (by kernel_rfl))⟩
 f57 := ⟨Try.f99.name, by decide, Try.func99.trans (congrArg some (by kernel_rfl))⟩
 t0 := Try.underlying0
 a0 := Try.isAgg0
 z0 := Try.sizeOf0
 v0 := Try.zeroValue0
 t3 := Try.underlying3
 a3 := Try.isAgg3
 z3 := Try.sizeOf3
 v3 := Try.zeroValue3
 t4 := Try.underlying4
 a4 := Try.isAgg4
 z4 := Try.sizeOf4
 v4 := Try.zeroValue4
 t5 := Try.underlying5
 a5 := Try.isAgg5
 z5 := Try.sizeOf5
 v5 := Try.zeroValue5
 t9 := Try.underlying9
 a9 := Try.isAgg9
 z9 := Try.sizeOf9
 v9 := Try.zeroValue9
 t22 := Try.underlying24
 a22 := Try.isAgg24
 z22 := Try.sizeOf24
 v22 := Try.zeroValue24
 t25 := Try.underlying77
 a25 := Try.isAgg77
 z25 := Try.sizeOf77
 v25 := Try.zeroValue77
 t39 := Try.underlying84
 a39 := Try.isAgg84
 z39 := Try.sizeOf84
 v39 := Try.zeroValue84
 t45 := Try.underlying86
 a45 := Try.isAgg86
 z45 := Try.sizeOf86
 v45 := Try.zeroValue86
 t46 := Try.underlying87
 a46 := Try.isAgg87
 z46 := Try.sizeOf87
 v46 := Try.zeroValue87
 t50 := Try.underlying91
 a50 := Try.isAgg91
 z50 := Try.sizeOf91
 v50 := Try.zeroValue91
 t53 := Try.underlying94
 a53 := Try.isAgg94
 z53 := Try.sizeOf94
 v53 := Try.zeroValue94
 t55 := Try.underlying26
 a55 := Try.isAgg26
 z55 := Try.sizeOf26
 v55 := Try.zeroValue26
 t66 := Try.underlying102
 a66 := Try.isAgg102
 z66 := Try.sizeOf102
 v66 := Try.zeroValue102
 t70 := Try.underlying106
 a70 := Try.isAgg106
 z70 := Try.sizeOf106
 v70 := Try.zeroValue106
 t76 := Try.underlying114
 a76 := Try.isAgg114
 z76 := Try.sizeOf114
 v76 := Try.zeroValue114
 t77 := Try.underlying115
 a77 := Try.isAgg115
 z77 := Try.sizeOf115
 v77 := Try.zeroValue115 }
end Go.Proofs
namespace Go.Proofs.Yteenegaadlhjdaa
open Go.Proofs Go.RowKit
set_option maxRecDepth 20000 in
set_option maxHeartbeats 4000000 in
theorem or1_ok (a b : Int) (w : World) :
  Calls Try.prog 69 #[.int .u64 a, .int .u64 b] w fun e w' => e = .returned (.int .u64 (Nd.orI a b)) ∧ Ext w w' := by
 refine Calls.enter (args := [.int .u64 a, .int .u64 b]) Try.func69 rfl rfl rfl rfl ?_
 refine sq ?_
 refine asg ?_
 refine WL.dn ?_
 refine sq ?_
 refine mv ?_
 refine mv ?_
 refine WL.or (v := Nd.orI a b) rfl rfl rfl rfl rfl ?_
 refine asg ?_
 refine WL.dn ?_
 refine WC.ret (fun a_ ha => ?_)
 exact bodyPost_tmp rfl ha rfl ⟨rfl, (Ext.refl _)⟩
set_option maxRecDepth 20000 in
set_option maxHeartbeats 4000000 in
theorem less1_ok (a b : Int) (w : World) :
  Calls Try.prog 101 #[.int .u64 a, .int .u64 b] w fun e w' => e = .returned (.int .u64 (Nd.lessI a b)) ∧ Ext w w' := by
 refine Calls.enter (args := [.int .u64 a, .int .u64 b]) Try.func101 rfl rfl rfl rfl ?_
 refine sq ?_
 refine asg ?_
 refine WL.dn ?_
 refine sq ?_
 refine mv ?_
 refine mv ?_
 refine WL.andNot (v := Nd.lessI a b) rfl rfl rfl rfl rfl ?_
 refine asg ?_
 refine WL.dn ?_
 refine WC.ret (fun a_ ha => ?_)
 exact bodyPost_tmp rfl ha rfl ⟨rfl, (Ext.refl _)⟩
set_option maxRecDepth 20000 in
set_option maxHeartbeats 4000000 in
theorem each_ok (w : World) (s t : S4) (fn : Nat) (f : Int → Int → Int) (hf : ∀ (a b : Int) (w' : World), Calls Try.prog fn #[.int .u64 a, .int .u64 b] w' fun e w'' => e = .returned (.int .u64 (f a b)) ∧ Ext w' w'') (hent : ∀ vs w, (callFunc fn vs).run Try.prog w = .ok (.enter fn vs) w) :
  Calls Try.prog 68 #[.agg #[.int .u64 s.a, .int .u64 s.b, .int .u64 s.c, .int .u64 s.d], .agg #[.int .u64 t.a, .int .u64 t.b, .int .u64 t.c, .int .u64 t.d], .func (.func fn) #[] #[]] w fun e w' => e = .returned (.agg (scells (Nd.eachS f s t)).toArray) ∧ Ext w w' := by
 refine Calls.enter (args := [.agg #[.int .u64 s.a, .int .u64 s.b, .int .u64 s.c, .int .u64 s.d], .agg #[.int .u64 t.a, .int .u64 t.b, .int .u64 t.c, .int .u64 t.d], .func (.func fn) #[] #[]]) Try.func68 rfl rfl rfl rfl ?_
 refine sq ?_
 refine WL.box_agg rfl rfl rfl (fun b1 w6 hb2 hE5 hs3 hR4 => ?_)
 refine WL.box_agg rfl rfl rfl (fun b7 w12 hb8 hE11 hs9 hR10 => ?_)
 refine WL.alloc rfl rfl Ty.zero28 rfl (fun b13 w18 hb14 hE17 hs15 hR16 => ?_)
 refine WL.dn ?_
 refine sq ?_
 refine WL.alloc rfl rfl Ty.zero28 rfl (fun b19 w24 hb20 hE23 hs21 hR22 => ?_)
 refine WL.dn ?_
 refine WC.seqk ?_
 refine sq ?_
 refine mv ?_
 refine WL.dn ?_
 refine WC.block ?_
 have h25 := (((hR4.ext hE11).ext hE17).ext hE23)
 have h26 := ((hR10.ext hE17).ext hE23)
 refine WC.weaken (r' := [(2, .func (.func fn) #[] #[]), (3, pt b1 0), (4, pt b7 0), (6, pt b13 0), (7, pt b19 0), (9, .int .i64 0)]) (s4 (sr rfl (sr rfl (subReg_nil _)))) ?_
 refine WC.loop (σ := Nat) (fun k r_ w_ => r_ = [(2, .func (.func fn) #[] #[]), (3, pt b1 0), (4, pt b7 0), (6, pt b13 0), (7, pt b19 0), (9, .int .i64 (k : Int))] ∧ Ext w w_ ∧ (k ≤ 4 ∧ Row w_ b1 [.int .u64 s.a, .int .u64 s.b, .int .u64 s.c, .int .u64 s.d] 28 ∧ Row w_ b7 [.int .u64 t.a, .int .u64 t.b, .int .u64 t.c, .int .u64 t.d] 28 ∧ Row w_ b13 [.int .u64 0, .int .u64 0, .int .u64 0, .int .u64 0] 28 ∧ Row w_ b19 (scells (Nd.eachK f s t k)) 28)) (fun k => 4 - k) 0 ⟨rfl, (((hE5.trans hE11).trans hE17).trans hE23), ⟨Nat.zero_le _, h25, h26, (hR16.ext hE23), hR22⟩⟩ ?_
 rintro k r_ w29 ⟨rfl, hE27, hI28⟩
 have hzhE27 := hE27.size
 obtain ⟨hk, hR3, hR4, hR6, hR7⟩ := hI28
 refine sq ?_
 cases hc30 : decide (((k : Int) : Int) < 4) with
 | false =>
  refine WL.lss rfl rfl rfl rfl hc30 ?_
  have hp30 := of_decide_eq_false hc30
  refine WL.dn ?_
  refine WC.seqk ?_
  refine cF ?_
  refine WC.exit (fun a_ ha => ?_)
  refine exit_then ?_
  refine exit_then ?_
  refine exit_here ?_
  refine WC.at ?_ ha
  refine sq ?_
  refine WL.load_box rfl rfl rfl hR7 Ty.agg28 ?_
  refine WL.store_box rfl rfl rfl hR6 Ty.agg28 rfl rfl (fun w33 hB32 hR31 => ?_)
  have hzhB32 := hB32.size
  refine WL.dn ?_
  refine WC.ret (fun a_ ha => ?_)
  have hkk : k = 4 := by omega
  subst hkk
  exact bodyPost_cell (l := [.int .u64 (Nd.eachK f s t 4).a, .int .u64 (Nd.eachK f s t 4).b, .int .u64 (Nd.eachK f s t 4).c, .int .u64 (Nd.eachK f s t 4).d]) rfl ha rfl Ty.agg28 hR31 ⟨rfl, (hB32.onto hE27 (by omega))⟩
 | true =>
  refine WL.lss rfl rfl rfl rfl hc30 ?_
  have hp30 := of_decide_eq_true hc30
  refine WL.dn ?_
  refine WC.seqk ?_
  refine cT ?_
  refine WC.sk ?_
  refine WC.seqk ?_
  refine WC.block ?_
  refine sq ?_
  refine mv ?_
  refine asg ?_
  refine WL.dn ?_
  have hk4 : k < 4 := by omega
  refine WC.weaken (r' := [(2, .func (.func fn) #[] #[]), (3, pt b1 0), (4, pt b7 0), (6, pt b13 0), (7, pt b19 0), (9, .int .i64 (k : Int)), (10, .bool true), (11, .int .i64 (k : Int)), (8, .int .i64 (k : Int))]) (s4 (s4 (sr rfl (subReg_nil _)))) ?_
  refine WC.draw 9 [12, 13, 14, 15, 16, 17, 18, 19, 20] [pc (.int .i64 (k : Int)), pc (.func (.func fn) #[] #[]), pc (.int .i64 (k : Int)), pc (pt b1 (0 + k * 1)), pc (.int .u64 (Nd.S4get s k)), pc (.int .i64 (k : Int)), pc (pt b7 (0 + k * 1)), pc (.int .u64 (Nd.S4get t k)), pc (.int .u64 (f (Nd.S4get s k) (Nd.S4get t k)))] (by kernel_rfl) (by kernel_rfl) (k4 (k4 ⟨KW_pc _, trivial⟩)) rfl rfl rfl (sc4 ?_ ?_ ?_ ?_ (sc4 ?_ ?_ ?_ ?_ (sc ?_ (StepsOn.nil _)))) ?_
  ·intro σ β w1 hE1 hbi hk
   refine ⟨[], (agree_nil _), ?_⟩
   refine mv ?_
   exact dq hbi rfl
  ·intro σ β w1 hE1 hbi hk
   refine ⟨[], (agree_nil _), ?_⟩
   refine mv ?_
   exact dq hbi rfl
  ·intro σ β w1 hE1 hbi hk
   refine ⟨[], (agree_nil _), ?_⟩
   refine mv ?_
   exact dq hbi rfl
  ·intro σ β w1 hE1 hbi hk
   refine ⟨[(14, .int .i64 (k : Int))], (ak hk 2 (agree_nil _)), ?_⟩
   refine WL.indexAddrA (i := k) rfl rfl Ty.arr28 rfl rfl rfl hk4 ?_
   exact dq hbi rfl
  ·intro σ β w1 hE1 hbi hk
   refine ⟨[(15, pt b1 (0 + k * 1))], (ak hk 3 (agree_nil _)), ?_⟩
   refine WL.load_fld (v := .int .u64 (Nd.S4get s k)) rfl rfl Ty.flat26 rfl (hR3.ext hE1) (scells_get _ _ hk4) ?_
   exact dq hbi rfl
  ·intro σ β w1 hE1 hbi hk
   refine ⟨[], (agree_nil _), ?_⟩
   refine mv ?_
   exact dq hbi rfl
  ·intro σ β w1 hE1 hbi hk
   refine ⟨[(17, .int .i64 (k : Int))], (ak hk 5 (agree_nil _)), ?_⟩
   refine WL.indexAddrA (i := k) rfl rfl Ty.arr28 rfl rfl rfl hk4 ?_
   exact dq hbi rfl
  ·intro σ β w1 hE1 hbi hk
   refine ⟨[(18, pt b7 (0 + k * 1))], (ak hk 6 (agree_nil _)), ?_⟩
   refine WL.load_fld (v := .int .u64 (Nd.S4get t k)) rfl rfl Ty.flat26 rfl (hR4.ext hE1) (scells_get _ _ hk4) ?_
   exact dq hbi rfl
  ·intro σ β w1 hE1 hbi hk
   refine ⟨[(13, .func (.func fn) #[] #[]), (16, .int .u64 (Nd.S4get s k)), (19, .int .u64 (Nd.S4get t k))], (ak hk 1 (ak hk 4 (ak hk 7 (agree_nil _)))), ?_⟩
   refine WL.callv rfl rfl rfl rfl hent (hf (Nd.S4get s k) (Nd.S4get t k) _) ?_
   rintro _ w55 ⟨rfl, hE54⟩
   refine ⟨_, rfl, ?_⟩
   exact dqE hbi hE54 rfl
  intro σ β w31 hE31 hbi31 hk
  have hz31 := hE31.size
  have hbi := hbi31
  refine WL.know [(12, .int .i64 (k : Int)), (20, .int .u64 (f (Nd.S4get s k) (Nd.S4get t k)))] (aj hk 0 (aj hk 8 (agree_nil _))) ?_
  refine WL.indexAddrA (i := k) rfl rfl Ty.arr28 rfl rfl rfl hk4 ?_
  refine WL.store_fld (new := [.int .u64 (Nd.eachK f s t (k + 1)).a, .int .u64 (Nd.eachK f s t (k + 1)).b, .int .u64 (Nd.eachK f s t (k + 1)).c, .int .u64 (Nd.eachK f s t (k + 1)).d]) rfl Ty.flat26 rfl rfl (hR7.ext hE31) rfl rfl (by simp; omega) (scells_put _ _ _ hk4) (fun w36 hB35 hR34 => ?_)
  have hzhB35 := hB35.size
  refine WL.dn ?_
  refine WC.region ?_
  refine WL.add (v := (k : Int) + 1) rfl rfl rfl rfl (IntWalk.i64_in _ (by omega)) ?_
  refine mv ?_
  refine WL.nil (fun a_ ha => ?_)
  have h37 := (hB35.row (hR3.ext hE31) (by omega))
  have h38 := (hB35.row (hR4.ext hE31) (by omega))
  have h39 := (hB35.row (hR6.ext hE31) (by omega))
  exact ⟨k + 1, _, ha.weaken (s4 (sr rfl (sr rfl (subReg_nil _)))), ⟨rfl, (hB35.onto (hE27.trans hE31) (by omega)), ⟨by omega, h37, h38, h39, hR34⟩⟩, by first | omega | (dsimp only; omega)⟩
set_option maxRecDepth 20000 in
set_option maxHeartbeats 4000000 in
theorem setOr_ok (w : World) (s t : S4) :
  Calls Try.prog 59 #[.agg #[.int .u64 s.a, .int .u64 s.b, .int .u64 s.c, .int .u64 s.d], .agg #[.int .u64 t.a, .int .u64 t.b, .int .u64 t.c, .int .u64 t.d]] w fun e w' => e = .returned (.agg (scells (Nd.orS s t)).toArray) ∧ Ext w w' := by
 refine Calls.enter (args := [.agg #[.int .u64 s.a, .int .u64 s.b, .int .u64 s.c, .int .u64 s.d], .agg #[.int .u64 t.a, .int .u64 t.b, .int .u64 t.c, .int .u64 t.d]]) Try.func59 rfl rfl rfl rfl ?_
 refine sq ?_
 refine WL.box_agg rfl rfl rfl (fun b1 w6 hb2 hE5 hs3 hR4 => ?_)
 refine WL.box_agg rfl rfl rfl (fun b7 w12 hb8 hE11 hs9 hR10 => ?_)
 refine WL.alloc rfl rfl Ty.zero28 rfl (fun b13 w18 hb14 hE17 hs15 hR16 => ?_)
 refine WL.dn ?_
 refine sq ?_
 have h19 := ((hR4.ext hE11).ext hE17)
 refine WL.load_box rfl rfl rfl h19 Ty.agg28 ?_
 refine WL.load_box rfl rfl rfl (hR10.ext hE17) Ty.agg28 ?_
 refine WL.call rfl rfl rfl Ty.ent68 (each_ok _ s t 69 Nd.orI (fun a b w2 => or1_ok a b w2) Ty.ent69) ?_
 rintro _ w21 ⟨rfl, hE20⟩
 have hzhE20 := hE20.size
 refine ⟨_, rfl, ?_⟩
 refine WL.store_box rfl rfl rfl (hR16.ext hE20) Ty.agg28 rfl rfl (fun w24 hB23 hR22 => ?_)
 have hzhB23 := hB23.size
 refine WL.dn ?_
 refine WC.ret (fun a_ ha => ?_)
 exact bodyPost_cell (l := [.int .u64 (Nd.orS s t).a, .int .u64 (Nd.orS s t).b, .int .u64 (Nd.orS s t).c, .int .u64 (Nd.orS s t).d]) rfl ha rfl Ty.agg28 hR22 ⟨rfl, (hB23.onto (((hE5.trans hE11).trans hE17).trans hE20) (by omega))⟩
set_option maxRecDepth 20000 in
set_option maxHeartbeats 4000000 in
theorem setLess_ok (w : World) (s t : S4) :
  Calls Try.prog 96 #[.agg #[.int .u64 s.a, .int .u64 s.b, .int .u64 s.c, .int .u64 s.d], .agg #[.int .u64 t.a, .int .u64 t.b, .int .u64 t.c, .int .u64 t.d]] w fun e w' => e = .returned (.agg (scells (Nd.lessS s t)).toArray) ∧ Ext w w' := by
 refine Calls.enter (args := [.agg #[.int .u64 s.a, .int .u64 s.b, .int .u64 s.c, .int .u64 s.d], .agg #[.int .u64 t.a, .int .u64 t.b, .int .u64 t.c, .int .u64 t.d]]) Try.func96 rfl rfl rfl rfl ?_
 refine sq ?_
 refine WL.box_agg rfl rfl rfl (fun b1 w6 hb2 hE5 hs3 hR4 => ?_)
 refine WL.box_agg rfl rfl rfl (fun b7 w12 hb8 hE11 hs9 hR10 => ?_)
 refine WL.alloc rfl rfl Ty.zero28 rfl (fun b13 w18 hb14 hE17 hs15 hR16 => ?_)
 refine WL.dn ?_
 refine sq ?_
 have h19 := ((hR4.ext hE11).ext hE17)
 refine WL.load_box rfl rfl rfl h19 Ty.agg28 ?_
 refine WL.load_box rfl rfl rfl (hR10.ext hE17) Ty.agg28 ?_
 refine WL.call rfl rfl rfl Ty.ent68 (each_ok _ s t 101 Nd.lessI (fun a b w2 => less1_ok a b w2) Ty.ent101) ?_
 rintro _ w21 ⟨rfl, hE20⟩
 have hzhE20 := hE20.size
 refine ⟨_, rfl, ?_⟩
 refine WL.store_box rfl rfl rfl (hR16.ext hE20) Ty.agg28 rfl rfl (fun w24 hB23 hR22 => ?_)
 have hzhB23 := hB23.size
 refine WL.dn ?_
 refine WC.ret (fun a_ ha => ?_)
 exact bodyPost_cell (l := [.int .u64 (Nd.lessS s t).a, .int .u64 (Nd.lessS s t).b, .int .u64 (Nd.lessS s t).c, .int .u64 (Nd.lessS s t).d]) rfl ha rfl Ty.agg28 hR22 ⟨rfl, (hB23.onto (((hE5.trans hE11).trans hE17).trans hE20) (by omega))⟩
set_option maxRecDepth 20000 in
set_option maxHeartbeats 4000000 in
theorem has1b_ok (w : World) (s : S4) (c : Nat) (hs : Nd.SOk s) (hc : c < 256) :
  Calls Try.prog 97 #[.agg #[.int .u64 s.a, .int .u64 s.b, .int .u64 s.c, .int .u64 s.d], .int .u8 (c : Int)] w fun e w' => e = .returned (.bool (Nd.sbit s c)) ∧ Ext w w' := by
 refine Calls.enter (args := [.agg #[.int .u64 s.a, .int .u64 s.b, .int .u64 s.c, .int .u64 s.d], .int .u8 (c : Int)]) Try.func97 rfl rfl rfl rfl ?_
 refine sq ?_
 refine WL.box_agg rfl rfl rfl (fun b1 w6 hb2 hE5 hs3 hR4 => ?_)
 refine asg ?_
 refine WL.dn ?_
 refine sq ?_
 refine mv ?_
 refine WL.shr (v := ((c / 64 : Nat) : Int)) rfl rfl rfl rfl (Nd.shr6 ⟨c, hc⟩) ?_
 refine WL.indexAddrA (i := (c / 64)) rfl rfl Ty.arr28 rfl rfl rfl (by omega) ?_
 refine WL.load_fld (v := .int .u64 (Nd.S4get s (c / 64))) rfl rfl Ty.flat26 rfl hR4 (scells_get _ _ (by omega)) ?_
 refine mv ?_
 refine WL.and (v := ((c % 64 : Nat) : Int)) rfl rfl rfl rfl (Nd.and63 ⟨c, hc⟩) ?_
 refine WL.shr (v := (Nd.S4get s (c / 64)).fdiv (2 ^ (min (c % 64) IntKind.u64.bits))) rfl rfl rfl rfl rfl ?_
 refine WL.and (v := Nd.andI ((Nd.S4get s (c / 64)).fdiv (2 ^ (min (c % 64) IntKind.u64.bits))) 1) rfl rfl rfl rfl rfl ?_
 refine WL.eql rfl rfl rfl rfl rfl ?_
 refine asg ?_
 refine WL.dn ?_
 refine WC.ret (fun a_ ha => ?_)
 exact bodyPost_tmp rfl ha rfl ⟨(by congr 2; exact Nd.hasI (Nd.S4get_ok hs _) (by omega)), hE5⟩
end Go.Proofs.Yteenegaadlhjdaa
namespace Go.Proofs.Yteenegaadlhjdaa
open Go.RowKit
theorem all_ok (w : World) (s : S4) :
    Calls Try.prog 100 #[.agg (scells s).toArray] w fun e w' => ∃ b, e = .returned (.func (.func 102) #[] #[pt b 0]) ∧ Ext w w' ∧ Row w' b (scells s) 28 ∧ b = w.heap.size ∧ w'.heap.size = w.heap.size + 1 := by
  refine Calls.enter (args := [.agg (scells s).toArray]) Try.func100 rfl rfl rfl rfl ?_
  refine sq ?_
  refine WL.box_agg rfl rfl rfl (fun b1 w1 hb1 hE1 hs1 hR1 => ?_)
  refine asg ?_
  refine WL.dn ?_
  refine sq ?_
  refine WL.makeFunc rfl rfl rfl ?_
  refine asg ?_
  refine WL.dn ?_
  refine WC.ret (fun a_ ha => ?_)
  exact bodyPost_tmp rfl ha rfl ⟨b1, rfl, hE1, hR1, hb1, hs1⟩
theorem all1_ok (s : S4) (hs : Nd.SOk s) (l : Nat) (S : Nat → Prop) (J : Nat → (Nat → Prop) → World → Prop) (Jx : (Nat → Prop) → World → Prop) (W : World) (b : Nat) (hS : ∀ k, S k → k < W.heap.size) (hRb : Row W b (scells s) 28) (hSb : ¬ S b)
    (hJ : ∀ i B A A', W.heap.size ≤ A.heap.size → J i B A → Kp W.heap.size B A A' → J i B A') (hJx : ∀ B A A', W.heap.size ≤ A.heap.size → Jx B A → Kp W.heap.size B A A' → Jx B A')
    (hY : ∀ (i : Nat) (B : Nat → Prop) (W1 : World) (c : Nat), (Nd.bytes s)[i]? = some c → W.heap.size ≤ W1.heap.size → (∀ k, B k → W.heap.size ≤ k ∧ k < W1.heap.size) → J i B W1 → YieldC Try.prog l #[.int .u8 (c : Int)] W1 (YPostB J Jx S B i W1)) (h0 : J 0 (fun _ => False) W) :
    Calls Try.prog 102 #[.func (.yield l) #[] #[], pt b 0] W fun e W' => (∃ v, e = .returned v) ∧ ∃ B, (∀ k, B k → W.heap.size ≤ k ∧ k < W'.heap.size) ∧ (J (Nd.bytes s).length B W' ∨ Jx B W') := by
  refine Calls.enterM (args := [.func (.yield l) #[] #[], pt b 0]) Try.func102 rfl rfl rfl rfl ?_
  refine sq ?_
  refine mv ?_
  refine WL.dn ?_
  refine WC.block ?_
  refine WC.weaken (r' := [(0, .func (.yield l) #[] #[]), (1, pt b 0), (4, .int .i64 0)]) (sr rfl (sr rfl (sr rfl (subReg_nil _)))) ?_
  refine WC.loop (σ := Nat) (fun k r_ w_ => r_ = [(0, .func (.yield l) #[] #[]), (1, pt b 0), (4, .int .i64 (k : Int))] ∧ k ≤ 256 ∧ Keep (fun k => S k ∨ W.heap.size ≤ k) W w_ ∧ ∃ B, (∀ k, B k → W.heap.size ≤ k ∧ k < w_.heap.size) ∧ J (Nd.upTo s k) B w_) (fun k => 256 - k) 0 ⟨rfl, Nat.zero_le _, Keep.refl _ _, _, fun _ h => h.elim, h0⟩ ?_
  rintro k r_ w1 ⟨rfl, hk, hK, B, hBb, hJ1⟩
  have hSb' : ¬ (S b ∨ W.heap.size ≤ b) := fun q => q.elim hSb (fun q => by have := hRb.lt; omega)
  have hz1 := hK.size
  refine sq ?_
  cases hc : decide ((k : Int) < 256) with
  | false =>
    refine WL.lss rfl rfl rfl rfl hc ?_
    have hc := of_decide_eq_false hc
    refine WL.dn ?_
    refine WC.seqk ?_
    refine cF ?_
    refine WC.exit (fun a_ ha => ?_)
    refine exit_then ?_
    refine exit_then ?_
    refine exit_here ?_
    refine bodyPostM_unitB (B := B) (.inr rfl) rfl ha (MarksB.nil _ W.heap.size _) (fun w' hk' => ⟨⟨_, rfl⟩, B, fun k h => by have := hBb k h; have := hk'.size; omega, .inl ?_⟩)
    have hkn : k = 256 := by omega
    subst hkn
    exact hJ _ _ _ _ (by omega) hJ1 hk'
  | true =>
    refine WL.lss rfl rfl rfl rfl hc ?_
    have hc := of_decide_eq_true hc
    have hlt : k < 256 := by omega
    refine WL.dn ?_
    refine WC.seqk ?_
    refine cT ?_
    refine WC.sk ?_
    refine WC.seqk ?_
    refine WC.block ?_
    refine sq ?_
    refine mv ?_
    refine asg ?_
    refine WL.dn ?_
    refine sq ?_
    refine WL.load_box rfl rfl rfl (hK.row hRb hSb') Ty.agg28 ?_
    refine mv ?_
    refine WL.convInt (v := (k : Int)) rfl rfl Try.underlying3 Try.underlying5 rfl (IntWalk.u8_in _ (by omega)) ?_
    refine WL.call rfl rfl rfl Ty.ent97 (has1b_ok _ s k hs hlt) ?_
    rintro _ w2 ⟨he, hE2⟩
    have hz2 := hE2.size
    have hJ2 : J (Nd.upTo s k) B w2 := hJ _ _ _ _ (by omega) hJ1 (Ext.kp hE2)
    have hstep := Nd.upTo_succ s k
    cases hb : Nd.sbit s k with
    | false =>
      rw [hb] at he; subst he
      rw [hb] at hstep
      refine ⟨_, rfl, ?_⟩
      refine mv ?_
      refine ps ?_
      refine ps ?_
      refine ps ?_
      refine ps ?_
      refine ps ?_
      refine pF ?_
      refine WL.dn ?_
      refine cF ?_
      refine WC.sk ?_
      refine WC.region ?_
      refine WL.add (v := ((k + 1 : Nat) : Int)) rfl rfl rfl rfl (by rw [IntWalk.i64_in _ (by omega)]; rfl) ?_
      refine mv ?_
      refine WL.nil (fun a_ ha => ?_)
      exact ⟨k + 1, _, ha.weaken (sr rfl (sr rfl (sr rfl (subReg_nil _)))), ⟨rfl, by omega, hK.trans (hE2.keep _), B, fun k h => by have := hBb k h; omega, by rw [hstep]; exact hJ2⟩, by omega⟩
    | true =>
      rw [hb] at he; subst he
      rw [hb] at hstep
      refine ⟨_, rfl, ?_⟩
      refine mv ?_
      refine mv ?_
      refine mv ?_
      refine WL.convInt (v := (k : Int)) rfl rfl Try.underlying3 Try.underlying5 rfl (IntWalk.u8_in _ (by omega)) ?_
      refine WL.yield rfl rfl rfl rfl (hY (Nd.upTo s k) B w2 k (Nd.bytes_at hlt hb) (by omega) (fun k h => by have := hBb k h; omega) hJ2) ?_
      rintro e W3 ⟨B3, hB3, hK3, (⟨rfl, hJ3⟩ | ⟨rfl, hx3⟩)⟩
      all_goals have hB3b : ∀ k, B3 k → W.heap.size ≤ k ∧ k < W3.heap.size := fun k h => ⟨(hB3 k h).1.elim (fun q => (hBb k q).1) (fun q => by omega), (hB3 k h).2⟩
      · refine ⟨_, rfl, ?_⟩
        refine WL.not rfl rfl rfl ?_
        refine pT ?_
        refine WL.dn ?_
        refine cF ?_
        refine WC.sk ?_
        refine WC.region ?_
        refine WL.add (v := ((k + 1 : Nat) : Int)) rfl rfl rfl rfl (by rw [IntWalk.i64_in _ (by omega)]; rfl) ?_
        refine mv ?_
        refine WL.nil (fun a_ ha => ?_)
        exact ⟨k + 1, _, ha.weaken (sr rfl (sr rfl (sr rfl (subReg_nil _)))), ⟨rfl, by omega, (hK.trans (hE2.keep _)).trans (hK3.mono (fun k _ h => h.imp id (fun h => (hBb k h).1))), B3, hB3b, by rw [hstep]; exact hJ3⟩, by omega⟩
      · refine ⟨_, rfl, ?_⟩
        have hz3 := hK3.size
        refine WL.not rfl rfl rfl ?_
        refine pT ?_
        refine WL.dn ?_
        refine cT ?_
        refine WC.ret (fun a_ ha => ?_)
        exact bodyPostM_unitB (B := B3) (.inl rfl) rfl ha (MarksB.nil _ W.heap.size _) (fun w' hk => ⟨⟨_, rfl⟩, B3, fun k h => by have := hB3b k h; have := hk.size; omega, .inr (hJx _ _ _ (by omega) hx3 hk)⟩)
theorem all_iter {s : S4} (hs : Nd.SOk s) {w : World} {b : Nat} (hR : Row w b (scells s) 28) :
    IterB Try.prog 102 #[pt b 0] (fun i v _ => ∃ c, (Nd.bytes s)[i]? = some c ∧ v = .int .u8 ((c : Nat) : Int)) (Nd.bytes s).length (fun k => k = b) w := by
  intro l' S' J' Jx' W' hE hS' hSD' hJ' hJx' hY' h0'
  exact Calls.caps1 (all1_ok s hs l' S' J' Jx' W' b hS' (hR.ext hE) (fun h => hSD' _ h rfl) hJ' hJx'
    (fun i B W1 c hc hsz hB hj => hY' i B W1 _ (by have := (List.getElem?_eq_some_iff.1 hc).1; exact this) ⟨c, hc, rfl⟩ hsz hB hj) h0')
section
variable {P : Program} {N : Nat} {ds : List Deferred} {r : Reg} {w : World}
theorem bodyPostM_cells2 {fn : Func} {R : Ending → World → Prop} {t u : Nat} {ct cu t' u' : TypeId} {b c : Nat} {v x : Value} {a : Act} {n0 : Nat} (hres : fn.results = #[.cell t ct, .cell u cu]) (h : Fits N ds r a) (hl : look r t = some (pt b 0)) (hl2 : look r u = some (pt c 0))
    (ht : flatB P ct = true) (hu : flatB P cu = true) (hr : Row w b [v] t') (hr2 : Row w c [x] u') (hb : b < n0) (hc : c < n0) (hm : Marks w n0 ds)
    (hR : ∀ w', Keep (fun k => n0 ≤ k) w w' → R (.returned (.tuple #[v, x])) w') : bodyPostM Fence.wide 0 P fn R .ret a w := by
  obtain ⟨Ds, rfl, hnd, hd⟩ := hm
  show LeavesInM Fence.wide 0 P fn a.tmps R a.defers .returning w
  rw [h.defers]
  refine leavesM Ds w hnd hd (fun w' hk => ?_)
  have hk' := hk.mono (S' := fun k => n0 ≤ k) (fun k _ hm => (hd k hm).1)
  have hr' : Row w' b [v] t' := hk'.row hr (by omega)
  have hr2' : Row w' c [x] u' := hk'.row hr2 (by omega)
  exact ⟨_, by simp [results, hres, h.get _ _ hl, h.get _ _ hl2, asAddr, run_loadVar_flat ht (hr'.cell 0), run_loadVar_flat hu (hr2'.cell 0)], hR w' hk'⟩
end
def firstV : Option Nat → Value
  | none => .tuple #[.int .u8 0, .bool false]
  | some c => .tuple #[.int .u8 (c : Int), .bool true]
theorem first_ok (w : World) (s : S4) (hs : Nd.SOk s) :
    Calls Try.prog 95 #[.agg (scells s).toArray] w fun e w' => e = .returned (firstV (Nd.firstS s)) ∧ Ext w w' := by
  refine Calls.enterM (args := [.agg (scells s).toArray]) Try.func95 rfl rfl rfl rfl ?_
  refine sq ?_
  refine WL.box_agg rfl rfl rfl (fun b1 w1 hb1 hE1 hs1 hR1 => ?_)
  refine WL.alloc rfl rfl Ty.zero5 rfl (fun b2 w2 hb2 hE2 hs2 hR2 => ?_)
  refine WL.alloc rfl rfl Ty.zero4 rfl (fun b3 w3 hb3 hE3 hs3 hR3 => ?_)
  refine WL.dn ?_
  refine WC.seqk ?_
  refine sq ?_
  refine WL.load_box rfl rfl rfl ((hR1.ext hE2).ext hE3) Ty.agg28 ?_
  refine WL.call rfl rfl rfl Ty.ent100 (all_ok _ s) ?_
  rintro e w4 ⟨b4, rfl, hE4, hR4, hb4, hs4⟩
  refine ⟨_, rfl, ?_⟩
  refine WL.dn ?_
  refine WC.block ?_
  have hR24 : Row w4 b2 _ _ := (hR2.ext hE3).ext hE4
  have hR34 : Row w4 b3 _ _ := hR3.ext hE4
  refine WC.rangeFuncV rfl rfl Ty.ent102 (all_iter hs hR4) (Ext.refl _) (by rintro k rfl; omega) (fun k => k = b2 ∨ k = b3) (by rintro k (rfl | rfl) <;> omega) (by rintro k (rfl | rfl) h <;> omega)
    (fun i A => i = 0 ∧ Row A b2 [.int .u8 0] 5 ∧ Row A b3 [.bool false] 4) (fun c A => c = .ret ∧ ∃ k : Nat, (Nd.bytes s)[0]? = some k ∧ Row A b2 [.int .u8 (k : Int)] 5 ∧ Row A b3 [.bool true] 4)
    (fun i A B h hb => ⟨h.1, h.2.1.below hb (by omega), h.2.2.below hb (by omega)⟩) (fun c A B h hb => ⟨h.1, by obtain ⟨k, h1, h2, h3⟩ := h.2; exact ⟨k, h1, h2.below hb (by omega), h3.below hb (by omega)⟩⟩)
    ⟨rfl, hR24, hR34⟩ ?_ ?_ ?_
  · rintro i W1 v lr hi ⟨c, hcb, rfl⟩ hl1 hl2 hKW ⟨rfl, hR2i, hR3i⟩
    have hzW := hKW.size
    refine WC.region ?_
    refine asg ?_
    refine WL.nil (fun a_ ha => ?_)
    refine ⟨Keep.refl _ _, fun w9 hB9 => ?_⟩
    refine WC.at ?_ ha
    have hz9 := hB9.size
    have hR29 : Row w9 b2 _ _ := hB9.row hR2i (by omega)
    have hR39 : Row w9 b3 _ _ := hB9.row hR3i (by omega)
    refine WC.block ?_
    refine sq ?_
    refine mv ?_
    refine WL.store_cell rfl Ty.flat5 rfl rfl hR29 rfl rfl (fun w10 hB10 hR210 => ?_)
    refine WL.store_cell rfl Ty.flat4 rfl rfl (hB10.row hR39 (by omega)) rfl rfl (fun w11 hB11 hR311 => ?_)
    refine WL.dn ?_
    refine WC.ret (fun a_ ha => ?_)
    exact ⟨(hB10.keep (.inl rfl)).trans (hB11.keep (.inr rfl)), rfl, c, hcb, hB11.row hR210 (by omega), hR311⟩
  · rintro wd Dd hDd hdd hKd ⟨h0, hR2d, hR3d⟩ a_ ha
    have hzd := hKd.size
    have hn : Nd.firstS s = none := by rw [Nd.firstS_eq, List.eq_nil_of_length_eq_zero h0]; rfl
    refine WC.at ?_ ha
    refine sq ?_
    refine WL.store_cell rfl Ty.flat5 rfl rfl hR2d rfl rfl (fun w10 hB10 hR210 => ?_)
    refine WL.store_cell rfl Ty.flat4 rfl rfl (hB10.row hR3d (by omega)) rfl rfl (fun w11 hB11 hR311 => ?_)
    refine WL.dn ?_
    refine WC.ret (fun a_ ha => ?_)
    have hz10 := hB10.size
    have hz11 := hB11.size
    rw [hn]
    refine bodyPostM_cells2 (b := b2) (c := b3) rfl ha rfl rfl Ty.flat5 Ty.flat4 (hB11.row hR210 (by omega)) hR311 (n0 := w4.heap.size) (by omega) (by omega) (Marks.one (by omega) ?_) (fun wz hkz => ⟨rfl, ?_⟩)
    · rw [hB11.block _ (by omega), hB10.block _ (by omega)]; exact hdd
    · exact hkz.after (hB11.onto (hB10.onto (hKd.after (((hE1.trans hE2).trans hE3).trans hE4) (by rintro k (rfl | rfl) <;> omega)) (by omega)) (by omega)) (fun k h => by omega)
  · rintro wd Dd cd hDd hdd hKd ⟨rfl, k, hk0, hR2d, hR3d⟩
    have hzd := hKd.size
    have hn : Nd.firstS s = some k := by rw [Nd.firstS_eq]; exact hk0
    refine WC.ret (fun a_ ha => ?_)
    rw [hn]
    refine bodyPostM_cells2 (b := b2) (c := b3) rfl ha rfl rfl Ty.flat5 Ty.flat4 hR2d hR3d (n0 := w4.heap.size) (by omega) (by omega) (Marks.one (by omega) hdd) (fun wz hkz => ⟨rfl, ?_⟩)
    exact hkz.after (hKd.after (((hE1.trans hE2).trans hE3).trans hE4) (by rintro k (rfl | rfl) <;> omega)) (fun k h => by omega)
theorem first_at {o : Option Nat} (w : World) (s : S4) (hs : Nd.SOk s) (h : Nd.firstS s = o) :
    Calls Try.prog 95 #[.agg (scells s).toArray] w fun e w' => e = .returned (firstV o) ∧ Ext w w' := h ▸ first_ok w s hs
end Go.Proofs.Yteenegaadlhjdaa
namespace Go.Proofs.Yteenegaadlhjdaa
open Go.RowKit
def pslc (l : List Value) (n : Nat) (t : TypeId) : Post := fun v w _ => ∃ b, v = .slice (some ⟨b, 0, none⟩) n n ∧ Row w b l t
theorem KW_pslc (l : List Value) (n : Nat) (t : TypeId) : KW (pslc l n t) := fun _ _ _ _ _ e _ ⟨b, h1, h2⟩ => ⟨b, h1, h2.ext e⟩
end Go.Proofs.Yteenegaadlhjdaa
namespace Go.Proofs.Yteenegaadlhjdaa
open Go.Proofs Go.RowKit
set_option maxRecDepth 20000 in
set_option maxHeartbeats 4000000 in
theorem cmpS_ok (w : World) (s t : S4) (hsok : Nd.SOk s) :
  Calls Try.prog 84 #[.agg #[.int .u64 s.a, .int .u64 s.b, .int .u64 s.c, .int .u64 s.d], .agg #[.int .u64 t.a, .int .u64 t.b, .int .u64 t.c, .int .u64 t.d]] w fun e w' => e = .returned (.int .i64 (Nd.cmpS s t)) ∧ Ext w w' := by
 refine Calls.enter (args := [.agg #[.int .u64 s.a, .int .u64 s.b, .int .u64 s.c, .int .u64 s.d], .agg #[.int .u64 t.a, .int .u64 t.b, .int .u64 t.c, .int .u64 t.d]]) Try.func84 rfl rfl rfl rfl ?_
 refine sq ?_
 refine WL.box_agg rfl rfl rfl (fun b1 w6 hb2 hE5 hs3 hR4 => ?_)
 refine WL.box_agg rfl rfl rfl (fun b7 w12 hb8 hE11 hs9 hR10 => ?_)
 refine asg ?_
 refine WL.dn ?_
 refine WC.seqk ?_
 cases hF : Nd.firstS (Nd.orS (Nd.lessS s t) (Nd.lessS t s)) with
 | none =>
  refine WC.weaken (r' := [(2, pt b1 0), (3, pt b7 0), (4, .int .i64 0)]) (sr rfl (sr rfl (sr rfl (subReg_nil _)))) ?_
  refine WC.draw 12 [8, 9, 10, 11, 12, 13, 14, 15, 7, 16, 17, 5] [pc (.agg #[.int .u64 s.a, .int .u64 s.b, .int .u64 s.c, .int .u64 s.d]), pc (.agg #[.int .u64 t.a, .int .u64 t.b, .int .u64 t.c, .int .u64 t.d]), pc (.agg #[.int .u64 (Nd.lessS s t).a, .int .u64 (Nd.lessS s t).b, .int .u64 (Nd.lessS s t).c, .int .u64 (Nd.lessS s t).d]), pc (.agg #[.int .u64 t.a, .int .u64 t.b, .int .u64 t.c, .int .u64 t.d]), pc (.agg #[.int .u64 s.a, .int .u64 s.b, .int .u64 s.c, .int .u64 s.d]), pc (.agg #[.int .u64 (Nd.lessS t s).a, .int .u64 (Nd.lessS t s).b, .int .u64 (Nd.lessS t s).c, .int .u64 (Nd.lessS t s).d]), pc (.agg #[.int .u64 (Nd.orS (Nd.lessS s t) (Nd.lessS t s)).a, .int .u64 (Nd.orS (Nd.lessS s t) (Nd.lessS t s)).b, .int .u64 (Nd.orS (Nd.lessS s t) (Nd.lessS t s)).c, .int .u64 (Nd.orS (Nd.lessS s t) (Nd.lessS t s)).d]), pc (.tuple #[.int .u8 0, .bool false]), pc (.tuple #[.int .u8 0, .bool false]), pc (.int .u8 0), pc (.bool false), pc (.int .u8 0)] (by kernel_rfl) (by kernel_rfl) (k4 (k4 (k4 trivial))) rfl rfl rfl (sc4 ?_ ?_ ?_ ?_ (sc4 ?_ ?_ ?_ ?_ (sc4 ?_ ?_ ?_ ?_ (StepsOn.nil _)))) ?_
  ·intro σ β w1 hE1 hbi hk
   refine ⟨[], (agree_nil _), ?_⟩
   have h33 := ((hR4.ext hE11).ext hE1)
   refine WL.load_box rfl rfl rfl h33 Ty.agg28 ?_
   exact dq hbi rfl
  ·intro σ β w1 hE1 hbi hk
   refine ⟨[], (agree_nil _), ?_⟩
   refine WL.load_box rfl rfl rfl (hR10.ext hE1) Ty.agg28 ?_
   exact dq hbi rfl
  ·intro σ β w1 hE1 hbi hk
   refine ⟨[(8, .agg #[.int .u64 s.a, .int .u64 s.b, .int .u64 s.c, .int .u64 s.d]), (9, .agg #[.int .u64 t.a, .int .u64 t.b, .int .u64 t.c, .int .u64 t.d])], (ak hk 0 (ak hk 1 (agree_nil _))), ?_⟩
   refine WL.call rfl rfl rfl Ty.ent96 (setLess_ok _ s t) ?_
   rintro _ w36 ⟨rfl, hE35⟩
   refine ⟨_, rfl, ?_⟩
   exact dqE hbi hE35 rfl
  ·intro σ β w1 hE1 hbi hk
   refine ⟨[], (agree_nil _), ?_⟩
   refine WL.load_box rfl rfl rfl (hR10.ext hE1) Ty.agg28 ?_
   exact dq hbi rfl
  ·intro σ β w1 hE1 hbi hk
   refine ⟨[], (agree_nil _), ?_⟩
   have h33 := ((hR4.ext hE11).ext hE1)
   refine WL.load_box rfl rfl rfl h33 Ty.agg28 ?_
   exact dq hbi rfl
  ·intro σ β w1 hE1 hbi hk
   refine ⟨[(11, .agg #[.int .u64 t.a, .int .u64 t.b, .int .u64 t.c, .int .u64 t.d]), (12, .agg #[.int .u64 s.a, .int .u64 s.b, .int .u64 s.c, .int .u64 s.d])], (ak hk 3 (ak hk 4 (agree_nil _))), ?_⟩
   refine WL.call rfl rfl rfl Ty.ent96 (setLess_ok _ t s) ?_
   rintro _ w36 ⟨rfl, hE35⟩
   refine ⟨_, rfl, ?_⟩
   exact dqE hbi hE35 rfl
  ·intro σ β w1 hE1 hbi hk
   refine ⟨[(10, .agg #[.int .u64 (Nd.lessS s t).a, .int .u64 (Nd.lessS s t).b, .int .u64 (Nd.lessS s t).c, .int .u64 (Nd.lessS s t).d]), (13, .agg #[.int .u64 (Nd.lessS t s).a, .int .u64 (Nd.lessS t s).b, .int .u64 (Nd.lessS t s).c, .int .u64 (Nd.lessS t s).d])], (ak hk 2 (ak hk 5 (agree_nil _))), ?_⟩
   refine WL.call rfl rfl rfl Ty.ent59 (setOr_ok _ (Nd.lessS s t) (Nd.lessS t s)) ?_
   rintro _ w36 ⟨rfl, hE35⟩
   refine ⟨_, rfl, ?_⟩
   exact dqE hbi hE35 rfl
  ·intro σ β w1 hE1 hbi hk
   refine ⟨[(14, .agg #[.int .u64 (Nd.orS (Nd.lessS s t) (Nd.lessS t s)).a, .int .u64 (Nd.orS (Nd.lessS s t) (Nd.lessS t s)).b, .int .u64 (Nd.orS (Nd.lessS s t) (Nd.lessS t s)).c, .int .u64 (Nd.orS (Nd.lessS s t) (Nd.lessS t s)).d])], (ak hk 6 (agree_nil _)), ?_⟩
   refine WL.call rfl rfl rfl Ty.ent95 (first_at _ (Nd.orS (Nd.lessS s t) (Nd.lessS t s)) (Nd.each_ok Nd.orI_ok _ _) hF) ?_
   rintro _ w35 ⟨rfl, hE34⟩
   refine ⟨_, rfl, ?_⟩
   exact dqE hbi hE34 rfl
  ·intro σ β w1 hE1 hbi hk
   refine ⟨[(15, .tuple #[.int .u8 0, .bool false])], (ak hk 7 (agree_nil _)), ?_⟩
   refine mv ?_
   exact dq hbi rfl
  ·intro σ β w1 hE1 hbi hk
   refine ⟨[(7, .tuple #[.int .u8 0, .bool false])], (ak hk 8 (agree_nil _)), ?_⟩
   refine WL.extract rfl rfl rfl rfl ?_
   exact dq hbi rfl
  ·intro σ β w1 hE1 hbi hk
   refine ⟨[(7, .tuple #[.int .u8 0, .bool false])], (ak hk 8 (agree_nil _)), ?_⟩
   refine WL.extract rfl rfl rfl rfl ?_
   exact dq hbi rfl
  ·intro σ β w1 hE1 hbi hk
   refine ⟨[(16, .int .u8 0)], (ak hk 9 (agree_nil _)), ?_⟩
   refine asg ?_
   exact dq hbi rfl
  intro σ β w13 hE13 hbi13 hk
  have hz13 := hE13.size
  have hbi := hbi13
  refine WL.know [(17, .bool false), (5, .int .u8 0)] (aj hk 10 (aj hk 11 (agree_nil _))) ?_
  refine asg ?_
  refine WL.dn ?_
  refine WC.seqk ?_
  refine WC.block ?_
  refine sq ?_
  refine mv ?_
  refine WL.not rfl rfl rfl ?_
  refine asg ?_
  refine WL.dn ?_
  refine cT ?_
  refine sq ?_
  refine asg ?_
  refine WL.dn ?_
  refine WC.ret (fun a_ ha => ?_)
  refine ret_block ?_
  refine ret_then ?_
  exact bodyPost_tmp rfl ha rfl ⟨(by congr 2; simp only [Nd.cmpS, hF] <;> try rfl), ((hE5.trans hE11).trans hE13)⟩
 | some c =>
  have hc := Nd.firstS_lt hF
  refine WC.weaken (r' := [(2, pt b1 0), (3, pt b7 0), (4, .int .i64 0)]) (sr rfl (sr rfl (sr rfl (subReg_nil _)))) ?_
  refine WC.draw 12 [8, 9, 10, 11, 12, 13, 14, 15, 7, 16, 17, 5] [pc (.agg #[.int .u64 s.a, .int .u64 s.b, .int .u64 s.c, .int .u64 s.d]), pc (.agg #[.int .u64 t.a, .int .u64 t.b, .int .u64 t.c, .int .u64 t.d]), pc (.agg #[.int .u64 (Nd.lessS s t).a, .int .u64 (Nd.lessS s t).b, .int .u64 (Nd.lessS s t).c, .int .u64 (Nd.lessS s t).d]), pc (.agg #[.int .u64 t.a, .int .u64 t.b, .int .u64 t.c, .int .u64 t.d]), pc (.agg #[.int .u64 s.a, .int .u64 s.b, .int .u64 s.c, .int .u64 s.d]), pc (.agg #[.int .u64 (Nd.lessS t s).a, .int .u64 (Nd.lessS t s).b, .int .u64 (Nd.lessS t s).c, .int .u64 (Nd.lessS t s).d]), pc (.agg #[.int .u64 (Nd.orS (Nd.lessS s t) (Nd.lessS t s)).a, .int .u64 (Nd.orS (Nd.lessS s t) (Nd.lessS t s)).b, .int .u64 (Nd.orS (Nd.lessS s t) (Nd.lessS t s)).c, .int .u64 (Nd.orS (Nd.lessS s t) (Nd.lessS t s)).d]), pc (.tuple #[.int .u8 (c : Int), .bool true]), pc (.tuple #[.int .u8 (c : Int), .bool true]), pc (.int .u8 (c : Int)), pc (.bool true), pc (.int .u8 (c : Int))] (by kernel_rfl) (by kernel_rfl) (k4 (k4 (k4 trivial))) rfl rfl rfl (sc4 ?_ ?_ ?_ ?_ (sc4 ?_ ?_ ?_ ?_ (sc4 ?_ ?_ ?_ ?_ (StepsOn.nil _)))) ?_
  ·intro σ β w1 hE1 hbi hk
   refine ⟨[], (agree_nil _), ?_⟩
   have h40033 := ((hR4.ext hE11).ext hE1)
   refine WL.load_box rfl rfl rfl h40033 Ty.agg28 ?_
   exact dq hbi rfl
  ·intro σ β w1 hE1 hbi hk
   refine ⟨[], (agree_nil _), ?_⟩
   refine WL.load_box rfl rfl rfl (hR10.ext hE1) Ty.agg28 ?_
   exact dq hbi rfl
  ·intro σ β w1 hE1 hbi hk
   refine ⟨[(8, .agg #[.int .u64 s.a, .int .u64 s.b, .int .u64 s.c, .int .u64 s.d]), (9, .agg #[.int .u64 t.a, .int .u64 t.b, .int .u64 t.c, .int .u64 t.d])], (ak hk 0 (ak hk 1 (agree_nil _))), ?_⟩
   refine WL.call rfl rfl rfl Ty.ent96 (setLess_ok _ s t) ?_
   rintro _ w40036 ⟨rfl, hE40035⟩
   refine ⟨_, rfl, ?_⟩
   exact dqE hbi hE40035 rfl
  ·intro σ β w1 hE1 hbi hk
   refine ⟨[], (agree_nil _), ?_⟩
   refine WL.load_box rfl rfl rfl (hR10.ext hE1) Ty.agg28 ?_
   exact dq hbi rfl
  ·intro σ β w1 hE1 hbi hk
   refine ⟨[], (agree_nil _), ?_⟩
   have h40033 := ((hR4.ext hE11).ext hE1)
   refine WL.load_box rfl rfl rfl h40033 Ty.agg28 ?_
   exact dq hbi rfl
  ·intro σ β w1 hE1 hbi hk
   refine ⟨[(11, .agg #[.int .u64 t.a, .int .u64 t.b, .int .u64 t.c, .int .u64 t.d]), (12, .agg #[.int .u64 s.a, .int .u64 s.b, .int .u64 s.c, .int .u64 s.d])], (ak hk 3 (ak hk 4 (agree_nil _))), ?_⟩
   refine WL.call rfl rfl rfl Ty.ent96 (setLess_ok _ t s) ?_
   rintro _ w40036 ⟨rfl, hE40035⟩
   refine ⟨_, rfl, ?_⟩
   exact dqE hbi hE40035 rfl
  ·intro σ β w1 hE1 hbi hk
   refine ⟨[(10, .agg #[.int .u64 (Nd.lessS s t).a, .int .u64 (Nd.lessS s t).b, .int .u64 (Nd.lessS s t).c, .int .u64 (Nd.lessS s t).d]), (13, .agg #[.int .u64 (Nd.lessS t s).a, .int .u64 (Nd.lessS t s).b, .int .u64 (Nd.lessS t s).c, .int .u64 (Nd.lessS t s).d])], (ak hk 2 (ak hk 5 (agree_nil _))), ?_⟩
   refine WL.call rfl rfl rfl Ty.ent59 (setOr_ok _ (Nd.lessS s t) (Nd.lessS t s)) ?_
   rintro _ w40036 ⟨rfl, hE40035⟩
   refine ⟨_, rfl, ?_⟩
   exact dqE hbi hE40035 rfl
  ·intro σ β w1 hE1 hbi hk
   refine ⟨[(14, .agg #[.int .u64 (Nd.orS (Nd.lessS s t) (Nd.lessS t s)).a, .int .u64 (Nd.orS (Nd.lessS s t) (Nd.lessS t s)).b, .int .u64 (Nd.orS (Nd.lessS s t) (Nd.lessS t s)).c, .int .u64 (Nd.orS (Nd.lessS s t) (Nd.lessS t s)).d])], (ak hk 6 (agree_nil _)), ?_⟩
   refine WL.call rfl rfl rfl Ty.ent95 (first_at _ (Nd.orS (Nd.lessS s t) (Nd.lessS t s)) (Nd.each_ok Nd.orI_ok _ _) hF) ?_
   rintro _ w40035 ⟨rfl, hE40034⟩
   refine ⟨_, rfl, ?_⟩
   exact dqE hbi hE40034 rfl
  ·intro σ β w1 hE1 hbi hk
   refine ⟨[(15, .tuple #[.int .u8 (c : Int), .bool true])], (ak hk 7 (agree_nil _)), ?_⟩
   refine mv ?_
   exact dq hbi rfl
  ·intro σ β w1 hE1 hbi hk
   refine ⟨[(7, .tuple #[.int .u8 (c : Int), .bool true])], (ak hk 8 (agree_nil _)), ?_⟩
   refine WL.extract rfl rfl rfl rfl ?_
   exact dq hbi rfl
  ·intro σ β w1 hE1 hbi hk
   refine ⟨[(7, .tuple #[.int .u8 (c : Int), .bool true])], (ak hk 8 (agree_nil _)), ?_⟩
   refine WL.extract rfl rfl rfl rfl ?_
   exact dq hbi rfl
  ·intro σ β w1 hE1 hbi hk
   refine ⟨[(16, .int .u8 (c : Int))], (ak hk 9 (agree_nil _)), ?_⟩
   refine asg ?_
   exact dq hbi rfl
  intro σ β w40013 hE40013 hbi40013 hk
  have hz40013 := hE40013.size
  have hbi := hbi40013
  refine WL.know [(17, .bool true), (5, .int .u8 (c : Int))] (aj hk 10 (aj hk 11 (agree_nil _))) ?_
  refine asg ?_
  refine WL.dn ?_
  refine WC.seqk ?_
  refine WC.block ?_
  refine sq ?_
  refine mv ?_
  refine WL.not rfl rfl rfl ?_
  refine asg ?_
  refine WL.dn ?_
  refine cF ?_
  refine sq ?_
  have h40016 := ((hR4.ext hE11).ext hE40013)
  refine WL.load_box rfl rfl rfl h40016 Ty.agg28 ?_
  refine mv ?_
  refine WL.call rfl rfl rfl Ty.ent97 (has1b_ok _ s c hsok (by omega)) ?_
  rintro _ w40018 ⟨rfl, hE40017⟩
  have hzhE40017 := hE40017.size
  refine ⟨_, rfl, ?_⟩
  cases hc40019 : Nd.sbit s c with
  | false =>
   refine asg ?_
   refine WL.dn ?_
   refine cF ?_
   refine WC.sk ?_
   refine WC.seqk ?_
   refine WC.weaken (r' := [(4, .int .i64 0), (18, .bool false), (21, .bool false)]) (sr rfl (sr rfl (sr rfl (subReg_nil _)))) ?_
   refine WC.region ?_
   refine asg ?_
   refine WL.dn ?_
   refine WC.ret (fun a_ ha => ?_)
   exact bodyPost_tmp rfl ha rfl ⟨(by congr 2; simp only [Nd.cmpS, hF, hc40019] <;> try rfl), (((hE5.trans hE11).trans hE40013).trans hE40017)⟩
  | true =>
   refine asg ?_
   refine WL.dn ?_
   refine cT ?_
   refine WC.seqk ?_
   refine WC.weaken (r' := [(4, .int .i64 0), (18, .bool false), (21, .bool true)]) (sr rfl (sr rfl (sr rfl (subReg_nil _)))) ?_
   refine WC.region ?_
   refine asg ?_
   refine WL.dn ?_
   refine WC.ret (fun a_ ha => ?_)
   refine ret_block ?_
   refine ret_then ?_
   exact bodyPost_tmp rfl ha rfl ⟨(by congr 2; simp only [Nd.cmpS, hF, hc40019] <;> try rfl), (((hE5.trans hE11).trans hE40013).trans hE40017)⟩
set_option maxRecDepth 20000 in
set_option maxHeartbeats 4000000 in
theorem cmpor_ok (w : World) (b : Nat) (x y : Int) (hR : Row w b [.int .i64 x, .int .i64 y] 3) :
  Calls Try.prog 85 #[.slice (some ⟨b, 0, none⟩) 2 2] w fun e w' => e = .returned (.int .i64 (Nd.orC x y)) ∧ Ext w w' := by
 refine Calls.enter (args := [.slice (some ⟨b, 0, none⟩) 2 2]) Try.func85 rfl rfl rfl rfl ?_
 refine sq ?_
 refine asg ?_
 refine WL.dn ?_
 refine sq ?_
 refine asg ?_
 refine WL.dn ?_
 refine WC.seqk ?_
 refine sq ?_
 refine mv ?_
 refine WL.len rfl rfl Try.underlying112 rfl ?_
 refine mv ?_
 refine WL.dn ?_
 refine WC.block ?_
 refine WC.weaken (r' := [(6, .slice (some ⟨b, 0, none⟩) 2 2), (3, .int .i64 0), (7, .int .i64 2), (8, .int .i64 0)]) (s4 (subReg_nil _)) ?_
 refine WC.loop (σ := Nat) (fun k r_ w_ => r_ = [(6, .slice (some ⟨b, 0, none⟩) 2 2), (3, .int .i64 0), (7, .int .i64 2), (8, .int .i64 (k : Int))] ∧ Ext w w_ ∧ (k ≤ 2 ∧ ∀ j, j < k → Nd.pick2 j x y = 0)) (fun k => 2 - k) 0 ⟨rfl, (Ext.refl _), ⟨Nat.zero_le _, fun j h => by omega⟩⟩ ?_
 rintro k r_ w3 ⟨rfl, hE1, hI2⟩
 have hzhE1 := hE1.size
 obtain ⟨hk, hI0⟩ := hI2
 refine sq ?_
 cases hc4 : decide (((k : Int) : Int) < 2) with
 | false =>
  refine WL.lss rfl rfl rfl rfl hc4 ?_
  have hp4 := of_decide_eq_false hc4
  refine WL.dn ?_
  refine WC.seqk ?_
  refine cF ?_
  refine WC.exit (fun a_ ha => ?_)
  refine exit_then ?_
  refine exit_then ?_
  refine exit_here ?_
  refine WC.at ?_ ha
  refine sq ?_
  refine mv ?_
  refine asg ?_
  refine WL.dn ?_
  refine WC.ret (fun a_ ha => ?_)
  exact bodyPost_tmp rfl ha rfl ⟨(by rw [← Nd.orC_zero (fun j hj => hI0 j (by omega))]), hE1⟩
 | true =>
  refine WL.lss rfl rfl rfl rfl hc4 ?_
  have hp4 := of_decide_eq_true hc4
  refine WL.dn ?_
  refine WC.seqk ?_
  refine cT ?_
  refine WC.sk ?_
  refine WC.seqk ?_
  refine WC.block ?_
  refine sq ?_
  refine WL.indexAddr (i := k) rfl rfl Ty.slice112 rfl rfl rfl (by omega) ?_
  refine WL.load_fld (v := .int .i64 (Nd.pick2 k x y)) rfl rfl Ty.flat3 rfl (hR.ext hE1) (by have hk2 : k = 0 ∨ k = 1 := (by omega); rcases hk2 with rfl | rfl <;> rfl) ?_
  refine asg ?_
  refine WL.dn ?_
  refine sq ?_
  refine mv ?_
  refine mv ?_
  cases hc5 : ((Nd.pick2 k x y : Int) != 0) with
  | false =>
   refine WL.neq rfl rfl rfl rfl hc5 ?_
   have hp5 := bne_eq_false_iff_eq.1 hc5
   refine WL.dn ?_
   refine cF ?_
   refine WC.sk ?_
   refine WC.region ?_
   refine WL.add (v := (k : Int) + 1) rfl rfl rfl rfl (IntWalk.i64_in _ (by omega)) ?_
   refine mv ?_
   refine WL.nil (fun a_ ha => ?_)
   exact ⟨k + 1, _, ha.weaken (s4 (subReg_nil _)), ⟨rfl, hE1, ⟨by omega, fun j hj => by rcases Nat.lt_or_ge j k with h | h; exact hI0 j h; have e : j = k := (by omega); subst e; omega⟩⟩, by first | omega | (dsimp only; omega)⟩
  | true =>
   refine WL.neq rfl rfl rfl rfl hc5 ?_
   have hp5 := bne_iff_ne.1 hc5
   refine WL.dn ?_
   refine cT ?_
   refine sq ?_
   refine mv ?_
   refine asg ?_
   refine WL.dn ?_
   refine WC.ret (fun a_ ha => ?_)
   refine ret_block ?_
   refine ret_then ?_
   refine ret_then ?_
   refine ret_block ?_
   refine ret_then ?_
   exact bodyPost_tmp rfl ha rfl ⟨(by rw [Nd.orC_pick (by omega) hI0 (by simpa using hc5)]), hE1⟩
set_option maxRecDepth 20000 in
set_option maxHeartbeats 4000000 in
theorem compareFunc_ok (D D2 : Nat → Prop) (w : World) (a a2 : Option Addr) (cap cap2 fn : Nat) (caps : Array Value) (ts us : List Nd) (p : Nd → Nd → Int) (hts : NodesV D w (.slice a ts.length cap) ts) (hus : NodesV D2 w (.slice a2 us.length cap2) us) (hf : ∀ (l l2 : List Value) (t u : Nd) (w' : World), Ext w w' → NodeL D w' l t → NodeL D2 w' l2 u → t ∈ ts → u ∈ us → Calls Try.prog fn (#[.agg l.toArray, .agg l2.toArray] ++ caps) w' fun e w'' => e = .returned (.int .i64 (p t u)) ∧ Ext w' w'') (hent : ∀ vs w, (callFunc fn vs).run Try.prog w = .ok (.enter fn vs) w) :
  Calls Try.prog 88 #[.slice a ts.length cap, .slice a2 us.length cap2, .func (.func fn) #[] caps] w fun e w' => e = .returned (.int .i64 (Nd.cmpL p ts us)) ∧ Ext w w' := by
 have hlen := hts.len
 have hlen2 := hus.len
 have hts := hts.lt
 have hus := hus.lt
 refine Calls.enter (args := [.slice a ts.length cap, .slice a2 us.length cap2, .func (.func fn) #[] caps]) Try.func88 rfl rfl rfl rfl ?_
 refine sq ?_
 refine asg ?_
 refine WL.dn ?_
 refine WC.seqk ?_
 refine sq ?_
 refine mv ?_
 refine WL.len rfl rfl Try.underlying24 rfl ?_
 refine mv ?_
 refine WL.dn ?_
 refine WC.block ?_
 refine WC.weaken (r' := [(0, .slice a ts.length cap), (1, .slice a2 us.length cap2), (2, .func (.func fn) #[] caps), (11, .slice a ts.length cap), (12, .int .i64 ts.length), (13, .int .i64 0)]) (s4 (sr rfl (sr rfl (subReg_nil _)))) ?_
 refine WC.loop (σ := Nat) (fun k r_ w_ => r_ = [(0, .slice a ts.length cap), (1, .slice a2 us.length cap2), (2, .func (.func fn) #[] caps), (11, .slice a ts.length cap), (12, .int .i64 ts.length), (13, .int .i64 (k : Int))] ∧ Ext w w_ ∧ (k ≤ ts.length ∧ k ≤ us.length ∧ Nd.cmpL p ts us = Nd.cmpL p (ts.drop k) (us.drop k))) (fun k => ts.length - k) 0 ⟨rfl, (Ext.refl _), ⟨Nat.zero_le _, Nat.zero_le _, rfl⟩⟩ ?_
 rintro k r_ w3 ⟨rfl, hE1, hI2⟩
 have hzhE1 := hE1.size
 obtain ⟨hk, hk2, hI1⟩ := hI2
 refine sq ?_
 cases hc4 : decide (((k : Int) : Int) < ts.length) with
 | false =>
  refine WL.lss rfl rfl rfl rfl hc4 ?_
  have hp4 := of_decide_eq_false hc4
  refine WL.dn ?_
  refine WC.seqk ?_
  refine cF ?_
  refine WC.exit (fun a_ ha => ?_)
  refine exit_then ?_
  refine exit_then ?_
  refine exit_here ?_
  refine WC.at ?_ ha
  refine WC.seqk ?_
  refine sq ?_
  refine mv ?_
  refine WL.len rfl rfl Try.underlying24 rfl ?_
  refine mv ?_
  refine WL.len rfl rfl Try.underlying24 rfl ?_
  cases hc5 : decide ((ts.length : Int) < us.length) with
  | false =>
   refine WL.lss rfl rfl rfl rfl hc5 ?_
   have hp5 := of_decide_eq_false hc5
   refine WL.dn ?_
   refine cF ?_
   refine WC.sk ?_
   refine sq ?_
   refine asg ?_
   refine WL.dn ?_
   refine WC.ret (fun a_ ha => ?_)
   exact bodyPost_tmp rfl ha rfl ⟨(by rw [hI1, Nd.cmpL_end (by omega) (by omega)]), hE1⟩
  | true =>
   refine WL.lss rfl rfl rfl rfl hc5 ?_
   have hp5 := of_decide_eq_true hc5
   refine WL.dn ?_
   refine cT ?_
   refine sq ?_
   refine asg ?_
   refine WL.dn ?_
   refine WC.ret (fun a_ ha => ?_)
   refine ret_then ?_
   exact bodyPost_tmp rfl ha rfl ⟨(by rw [hI1, Nd.cmpL_less (by omega) (by omega)]), hE1⟩
 | true =>
  refine WL.lss rfl rfl rfl rfl hc4 ?_
  have hp4 := of_decide_eq_true hc4
  refine WL.dn ?_
  refine WC.seqk ?_
  refine cT ?_
  refine WC.sk ?_
  refine WC.seqk ?_
  refine WC.block ?_
  refine sq ?_
  refine mv ?_
  obtain ⟨t5, ht5⟩ : ∃ t, ts[k]? = some t := ⟨_, List.getElem?_eq_getElem (by omega)⟩
  obtain ⟨eb5, eo5, el5, hea5, hD5, her5, hn5⟩ := (hts.ext hE1).at ht5
  obtain ⟨a5, cap5, rfl, hts5, hlen5⟩ := hn5.op2
  subst hea5
  refine WL.indexAddr (i := k) rfl rfl Ty.slice24 rfl rfl rfl (by omega) ?_
  refine WL.load_agg (l := tcells t5 (.slice a5 t5.subs.length cap5)) rfl rfl Ty.agg30 rfl her5 ?_
  refine WL.alloc rfl rfl Ty.zero30 rfl (fun b6 w11 hb7 hE10 hs8 hR9 => ?_)
  refine asg ?_
  refine WL.store_box rfl rfl rfl hR9 Ty.agg30 rfl rfl (fun w14 hB13 hR12 => ?_)
  have hzhB13 := hB13.size
  refine WL.dn ?_
  refine WC.seqk ?_
  refine sq ?_
  refine mv ?_
  refine mv ?_
  refine WL.len rfl rfl Try.underlying24 rfl ?_
  cases hc15 : decide ((us.length : Int) ≤ (k : Int)) with
  | false =>
   refine WL.geq rfl rfl rfl rfl hc15 ?_
   have hp15 := of_decide_eq_false hc15
   refine WL.dn ?_
   refine cF ?_
   refine WC.sk ?_
   refine sq ?_
   refine mv ?_
   refine mv ?_
   have h16 := (((hus.ext hE1).ext hE10).bu hB13)
   obtain ⟨t17, ht17⟩ : ∃ t, us[k]? = some t := ⟨_, List.getElem?_eq_getElem (by omega)⟩
   obtain ⟨eb17, eo17, el17, hea17, hD17, her17, hn17⟩ := h16.at ht17
   obtain ⟨a17, cap17, rfl, hts17, hlen17⟩ := hn17.op2
   subst hea17
   refine WL.indexAddr (i := k) rfl rfl Ty.slice24 rfl rfl rfl (by omega) ?_
   refine WL.load_agg (l := tcells t17 (.slice a17 t17.subs.length cap17)) rfl rfl Ty.agg30 rfl her17 ?_
   refine WL.alloc rfl rfl Ty.zero30 rfl (fun b18 w23 hb19 hE22 hs20 hR21 => ?_)
   refine WL.store_box rfl rfl rfl hR21 Ty.agg30 rfl rfl (fun w26 hB25 hR24 => ?_)
   have hzhB25 := hB25.size
   refine WL.dn ?_
   refine sq ?_
   refine mv ?_
   have h27 := (hB25.row (hR12.ext hE22) (by omega))
   refine WL.load_box rfl rfl rfl h27 Ty.agg30 ?_
   refine WL.load_box rfl rfl rfl hR24 Ty.agg30 ?_
   have h28 := ((((hn5.ext hE10).bu hB13).ext hE22).bu hB25)
   have h29 := ((hn17.ext hE22).bu hB25)
   refine WL.callv rfl rfl rfl rfl hent (hf _ _ _ _ _ (hB25.onto ((hB13.onto (hE1.trans hE10) (by omega)).trans hE22) (by omega)) (h28.dom (fun _ h => h.1)) (h29.dom (fun _ h => h.1)) (List.mem_of_getElem? ht5) (List.mem_of_getElem? ht17)) ?_
   rintro _ w31 ⟨rfl, hE30⟩
   have hzhE30 := hE30.size
   refine ⟨_, rfl, ?_⟩
   refine asg ?_
   refine WL.dn ?_
   refine sq ?_
   refine mv ?_
   cases hc32 : ((p t5 t17 : Int) != 0) with
   | false =>
    refine WL.neq rfl rfl rfl rfl hc32 ?_
    have hp32 := bne_eq_false_iff_eq.1 hc32
    refine WL.dn ?_
    refine cF ?_
    refine WC.sk ?_
    refine WC.region ?_
    refine WL.add (v := (k : Int) + 1) rfl rfl rfl rfl (IntWalk.i64_in _ (by omega)) ?_
    refine mv ?_
    refine WL.nil (fun a_ ha => ?_)
    exact ⟨k + 1, _, ha.weaken (s4 (sr rfl (sr rfl (subReg_nil _)))), ⟨rfl, ((hB25.onto ((hB13.onto (hE1.trans hE10) (by omega)).trans hE22) (by omega)).trans hE30), ⟨by omega, by omega, by rw [hI1, Nd.cmpL_step ht5 ht17, if_neg (by simpa using hc32)]⟩⟩, by first | omega | (dsimp only; omega)⟩
   | true =>
    refine WL.neq rfl rfl rfl rfl hc32 ?_
    have hp32 := bne_iff_ne.1 hc32
    refine WL.dn ?_
    refine cT ?_
    refine sq ?_
    refine mv ?_
    refine asg ?_
    refine WL.dn ?_
    refine WC.ret (fun a_ ha => ?_)
    refine ret_block ?_
    refine ret_then ?_
    refine ret_then ?_
    refine ret_block ?_
    refine ret_then ?_
    exact bodyPost_tmp rfl ha rfl ⟨(by rw [hI1, Nd.cmpL_step ht5 ht17, if_pos (by simpa using hc32)]), ((hB25.onto ((hB13.onto (hE1.trans hE10) (by omega)).trans hE22) (by omega)).trans hE30)⟩
  | true =>
   refine WL.geq rfl rfl rfl rfl hc15 ?_
   have hp15 := of_decide_eq_true hc15
   refine WL.dn ?_
   refine cT ?_
   refine sq ?_
   refine asg ?_
   refine WL.dn ?_
   refine WC.ret (fun a_ ha => ?_)
   refine ret_then ?_
   refine ret_block ?_
   refine ret_then ?_
   refine ret_then ?_
   refine ret_block ?_
   refine ret_then ?_
   exact bodyPost_tmp rfl ha rfl ⟨(by rw [hI1, Nd.cmpL_more (by omega) (by omega)]), (hB13.onto (hE1.trans hE10) (by omega))⟩
set_option maxRecDepth 20000 in
set_option maxHeartbeats 4000000 in
theorem compare_ok (T : Nd) : ∀ (D D2 : Nat → Prop) (w : World) (l l2 : List Value) (U : Nd) (hT : NodeL D w l T) (hU : NodeL D2 w l2 U) (hsT : T.sok = true) (hsU : U.sok = true),
  Calls Try.prog 72 #[.agg l.toArray, .agg l2.toArray] w fun e w' => e = .returned (.int .i64 (Nd.cmpN T U)) ∧ Ext w w' := by
 induction T using Nd.ind with
 | h kd st mn mx tsx ih =>
 intro D D2 w l l2 U hT hU hsT hsU
 replace ih : ∀ t, t ∈ (Nd.mk kd st mn mx tsx).subs → _ := ih
 generalize Nd.mk kd st mn mx tsx = T at *
 clear kd st mn mx tsx
 have hT := hT.lt
 obtain ⟨a, cap, rfl, hts, hlen⟩ := hT.op2
 have hU := hU.lt
 obtain ⟨a2, cap2, rfl, hts2, hlen2⟩ := hU.op2
 refine Calls.enter (args := [.agg (tcells T (.slice a T.subs.length cap)).toArray, .agg (tcells U (.slice a2 U.subs.length cap2)).toArray]) Try.func72 rfl rfl rfl rfl ?_
 refine sq ?_
 refine WL.box_agg rfl rfl rfl (fun b1 w6 hb2 hE5 hs3 hR4 => ?_)
 refine WL.box_agg rfl rfl rfl (fun b7 w12 hb8 hE11 hs9 hR10 => ?_)
 refine asg ?_
 refine WL.dn ?_
 refine WC.seqk ?_
 refine sq ?_
 refine WL.fieldAddr rfl rfl Ty.fld30_0 rfl ?_
 refine WL.load_fld rfl rfl Ty.flat5 rfl (hR4.ext hE11) rfl ?_
 refine WL.fieldAddr rfl rfl Ty.fld30_0 rfl ?_
 refine WL.load_fld rfl rfl Ty.flat5 rfl hR10 rfl ?_
 cases hc13 : ((T.kind : Int) != U.kind) with
 | false =>
  refine WL.neq rfl rfl rfl rfl hc13 ?_
  have hp13 := bne_eq_false_iff_eq.1 hc13
  refine WL.dn ?_
  refine cF ?_
  refine WC.sk ?_
  refine WC.seqk ?_
  refine sq ?_
  refine WL.fieldAddr rfl rfl Ty.fld30_0 rfl ?_
  refine WL.load_fld rfl rfl Ty.flat5 rfl (hR4.ext hE11) rfl ?_
  refine WL.dn ?_
  refine WC.block ?_
  refine WC.seqk ?_
  refine WC.weaken (r' := [(2, pt b1 0), (3, pt b7 0), (4, .int .i64 0), (10, .bool false), (17, .int .u8 T.kind)]) (s4 (sr rfl (subReg_nil _))) ?_
  refine WC.region ?_
  cases hc14 : ((T.kind : Int) == 2) with
  | false =>
   refine WL.eql rfl rfl rfl rfl hc14 ?_
   have hp14 := beq_eq_false_iff_ne.1 hc14
   refine asg ?_
   refine WL.dn ?_
   refine cF ?_
   refine sq ?_
   cases hc15 : ((T.kind : Int) == 5) with
   | false =>
    refine WL.eql rfl rfl rfl rfl hc15 ?_
    have hp15 := beq_eq_false_iff_ne.1 hc15
    refine asg ?_
    refine WL.dn ?_
    refine cF ?_
    refine WC.seqk ?_
    refine sq ?_
    cases hc16 : ((T.kind : Int) == 0) with
    | false =>
     refine WL.eql rfl rfl rfl rfl hc16 ?_
     have hp16 := beq_eq_false_iff_ne.1 hc16
     refine asg ?_
     refine WL.dn ?_
     refine cF ?_
     refine WC.region ?_
     cases hc17 : ((T.kind : Int) == 1) with
     | false =>
      refine WL.eql rfl rfl rfl rfl hc17 ?_
      have hp17 := beq_eq_false_iff_ne.1 hc17
      refine asg ?_
      refine WL.dn ?_
      refine cF ?_
      refine WC.sk ?_
      refine sq ?_
      refine WL.fieldAddr rfl rfl Ty.fld30_4 rfl ?_
      refine WL.load_fld rfl rfl Ty.flat24 rfl (hR4.ext hE11) rfl ?_
      refine WL.fieldAddr rfl rfl Ty.fld30_4 rfl ?_
      refine WL.load_fld rfl rfl Ty.flat24 rfl hR10 rfl ?_
      have h18 := ((hts.ext hE5).ext hE11)
      have h19 := ((hts2.ext hE5).ext hE11)
      refine WL.call rfl rfl rfl Ty.ent88 (compareFunc_ok _ _ _ _ _ _ _ _ _ T.subs U.subs Nd.cmpN h18 h19 (fun l l2 t u w2 h h1 h2 ht hu => Calls.caps20 (ih t ht _ _ _ _ _ _ h1 h2 (Nd.sok_subs hsT ht) (Nd.sok_subs hsU hu))) Ty.ent72) ?_
      rintro _ w21 ⟨rfl, hE20⟩
      have hzhE20 := hE20.size
      refine ⟨_, rfl, ?_⟩
      refine asg ?_
      refine WL.dn ?_
      refine WC.ret (fun a_ ha => ?_)
      exact bodyPost_tmp rfl ha rfl ⟨(by congr 2; rw [Nd.cmpN_eq]; (repeat' split) <;> first | rfl | (exfalso; omega) | (rw [Nd.orC_pos (a := Nd.orC (cmpI T.least U.least) (cmpI T.mostI U.mostI)) (by assumption)]) | (rw [Nd.orC_z (a := Nd.orC (cmpI T.least U.least) (cmpI T.mostI U.mostI)) (by assumption)])), ((hE5.trans hE11).trans hE20)⟩
     | true =>
      refine WL.eql rfl rfl rfl rfl hc17 ?_
      have hp17 := beq_iff_eq.1 hc17
      refine asg ?_
      refine WL.dn ?_
      refine cT ?_
      refine sq ?_
      refine asg ?_
      refine WL.dn ?_
      refine WC.ret (fun a_ ha => ?_)
      refine ret_block ?_
      refine ret_then ?_
      exact bodyPost_tmp rfl ha rfl ⟨(by congr 2; rw [Nd.cmpN_eq]; (repeat' split) <;> first | rfl | (exfalso; omega) | (rw [Nd.orC_pos (a := Nd.orC (cmpI T.least U.least) (cmpI T.mostI U.mostI)) (by assumption)]) | (rw [Nd.orC_z (a := Nd.orC (cmpI T.least U.least) (cmpI T.mostI U.mostI)) (by assumption)])), (hE5.trans hE11)⟩
    | true =>
     refine WL.eql rfl rfl rfl rfl hc16 ?_
     have hp16 := beq_iff_eq.1 hc16
     refine asg ?_
     refine WL.dn ?_
     refine cT ?_
     refine WC.sk ?_
     refine cT ?_
     refine sq ?_
     refine asg ?_
     refine WL.dn ?_
     refine WC.ret (fun a_ ha => ?_)
     refine ret_block ?_
     refine ret_then ?_
     exact bodyPost_tmp rfl ha rfl ⟨(by congr 2; rw [Nd.cmpN_eq]; (repeat' split) <;> first | rfl | (exfalso; omega) | (rw [Nd.orC_pos (a := Nd.orC (cmpI T.least U.least) (cmpI T.mostI U.mostI)) (by assumption)]) | (rw [Nd.orC_z (a := Nd.orC (cmpI T.least U.least) (cmpI T.mostI U.mostI)) (by assumption)])), (hE5.trans hE11)⟩
   | true =>
    refine WL.eql rfl rfl rfl rfl hc15 ?_
    have hp15 := beq_iff_eq.1 hc15
    refine asg ?_
    refine WL.dn ?_
    refine cT ?_
    refine WC.seqk ?_
    have h16 := ((hT.ext hE5).ext hE11)
    have h17 := ((hU.ext hE5).ext hE11)
    refine WC.weaken (r' := [(2, pt b1 0), (3, pt b7 0), (4, .int .i64 0), (10, .bool false), (17, .int .u8 T.kind), (18, .bool false), (25, .bool true)]) (s4 (sr rfl (sr rfl (sr rfl (subReg_nil _))))) ?_
    refine WC.draw 8 [27, 28, 29, 30, 31, 32, 33, 34] [pc (pt b1 5), pc (.int .i64 T.least), pc (pt b7 5), pc (.int .i64 U.least), pc (.int .i64 (cmpI T.least U.least)), pc (.agg (tcells T (.slice a T.subs.length cap)).toArray), pc (.int .i64 (Nd.mostI T)), pc (.agg (tcells U (.slice a2 U.subs.length cap2)).toArray)] (by kernel_rfl) (by kernel_rfl) (k4 (k4 trivial)) rfl rfl rfl (sc4 ?_ ?_ ?_ ?_ (sc4 ?_ ?_ ?_ ?_ (StepsOn.nil _))) ?_
    ·intro σ β w1 hE1 hbi hk
     refine ⟨[], (agree_nil _), ?_⟩
     refine WL.fieldAddr rfl rfl Ty.fld30_2 rfl ?_
     exact dq hbi rfl
    ·intro σ β w1 hE1 hbi hk
     refine ⟨[(27, pt b1 5)], (ak hk 0 (agree_nil _)), ?_⟩
     have h39 := ((hR4.ext hE11).ext hE1)
     refine WL.load_fld rfl rfl Ty.flat3 rfl h39 rfl ?_
     exact dq hbi rfl
    ·intro σ β w1 hE1 hbi hk
     refine ⟨[], (agree_nil _), ?_⟩
     refine WL.fieldAddr rfl rfl Ty.fld30_2 rfl ?_
     exact dq hbi rfl
    ·intro σ β w1 hE1 hbi hk
     refine ⟨[(29, pt b7 5)], (ak hk 2 (agree_nil _)), ?_⟩
     refine WL.load_fld rfl rfl Ty.flat3 rfl (hR10.ext hE1) rfl ?_
     exact dq hbi rfl
    ·intro σ β w1 hE1 hbi hk
     refine ⟨[(28, .int .i64 T.least), (30, .int .i64 U.least)], (ak hk 1 (ak hk 3 (agree_nil _))), ?_⟩
     refine WL.call rfl rfl rfl Ty.ent86 (cmp_i64 T.least U.least _) ?_
     rintro _ w41 ⟨rfl, hE40⟩
     refine ⟨_, rfl, ?_⟩
     exact dqE hbi hE40 rfl
    ·intro σ β w1 hE1 hbi hk
     refine ⟨[], (agree_nil _), ?_⟩
     have h38 := ((hR4.ext hE11).ext hE1)
     refine WL.load_box rfl rfl rfl h38 Ty.agg30 ?_
     exact dq hbi rfl
    ·intro σ β w1 hE1 hbi hk
     refine ⟨[(32, .agg (tcells T (.slice a T.subs.length cap)).toArray)], (ak hk 5 (agree_nil _)), ?_⟩
     refine WL.call rfl rfl rfl Ty.ent87 (most_ok _ _ _ _ (h16.ext hE1)) ?_
     rintro _ w40 ⟨rfl, hE39⟩
     refine ⟨_, rfl, ?_⟩
     exact dqE hbi hE39 rfl
    ·intro σ β w1 hE1 hbi hk
     refine ⟨[], (agree_nil _), ?_⟩
     refine WL.load_box rfl rfl rfl (hR10.ext hE1) Ty.agg30 ?_
     exact dq hbi rfl
    intro σ β w18 hE18 hbi18 hk
    have hz18 := hE18.size
    have hbi := hbi18
    refine WL.know [(31, .int .i64 (cmpI T.least U.least)), (33, .int .i64 (Nd.mostI T)), (34, .agg (tcells U (.slice a2 U.subs.length cap2)).toArray)] (aj hk 4 (aj hk 6 (aj hk 7 (agree_nil _)))) ?_
    refine WL.call rfl rfl rfl Ty.ent87 (most_ok _ _ _ _ (h17.ext hE18)) ?_
    rintro _ w23 ⟨rfl, hE22⟩
    have hzhE22 := hE22.size
    refine ⟨_, rfl, ?_⟩
    refine WL.call rfl rfl rfl Ty.ent86 (cmp_i64 (Nd.mostI T) (Nd.mostI U) _) ?_
    rintro _ w25 ⟨rfl, hE24⟩
    have hzhE24 := hE24.size
    refine ⟨_, rfl, ?_⟩
    refine WL.buildSlice (vs := [.int .i64 (cmpI T.least U.least), .int .i64 (cmpI (Nd.mostI T) (Nd.mostI U))]) (cells := [.int .i64 (cmpI T.least U.least), .int .i64 (cmpI (Nd.mostI T) (Nd.mostI U))]) rfl rfl Ty.slice112 Ty.zero3 rfl rfl rfl rfl rfl rfl (fun b26 w31 hb27 hE30 hs28 hR29 => ?_)
    refine WL.call rfl rfl rfl Ty.ent85 (cmpor_ok _ _ (cmpI T.least U.least) (cmpI (Nd.mostI T) (Nd.mostI U)) hR29) ?_
    rintro _ w33 ⟨rfl, hE32⟩
    have hzhE32 := hE32.size
    refine ⟨_, rfl, ?_⟩
    refine asg ?_
    refine WL.dn ?_
    refine WC.seqk ?_
    refine WC.weaken (r' := [(2, pt b1 0), (3, pt b7 0), (4, .int .i64 0), (10, .bool false), (17, .int .u8 T.kind), (18, .bool false), (25, .bool true), (5, .int .i64 (Nd.orC (cmpI T.least U.least) (cmpI (Nd.mostI T) (Nd.mostI U))))]) (s4 (s4 (subReg_nil _))) ?_
    refine WC.region ?_
    refine mv ?_
    cases hc34 : ((Nd.orC (cmpI T.least U.least) (cmpI (Nd.mostI T) (Nd.mostI U)) : Int) != 0) with
    | false =>
     refine WL.neq rfl rfl rfl rfl hc34 ?_
     have hp34 := bne_eq_false_iff_eq.1 hc34
     refine WL.dn ?_
     refine cF ?_
     refine WC.sk ?_
     refine sq ?_
     refine WL.fieldAddr rfl rfl Ty.fld30_4 rfl ?_
     have h35 := ((((((hR4.ext hE11).ext hE18).ext hE22).ext hE24).ext hE30).ext hE32)
     refine WL.load_fld rfl rfl Ty.flat24 rfl h35 rfl ?_
     refine WL.fieldAddr rfl rfl Ty.fld30_4 rfl ?_
     have h36 := (((((hR10.ext hE18).ext hE22).ext hE24).ext hE30).ext hE32)
     refine WL.load_fld rfl rfl Ty.flat24 rfl h36 rfl ?_
     have h37 := (((((((hts.ext hE5).ext hE11).ext hE18).ext hE22).ext hE24).ext hE30).ext hE32)
     have h38 := (((((((hts2.ext hE5).ext hE11).ext hE18).ext hE22).ext hE24).ext hE30).ext hE32)
     refine WL.call rfl rfl rfl Ty.ent88 (compareFunc_ok _ _ _ _ _ _ _ _ _ T.subs U.subs Nd.cmpN h37 h38 (fun l l2 t u w2 h h1 h2 ht hu => Calls.caps20 (ih t ht _ _ _ _ _ _ h1 h2 (Nd.sok_subs hsT ht) (Nd.sok_subs hsU hu))) Ty.ent72) ?_
     rintro _ w40 ⟨rfl, hE39⟩
     have hzhE39 := hE39.size
     refine ⟨_, rfl, ?_⟩
     refine asg ?_
     refine WL.dn ?_
     refine WC.ret (fun a_ ha => ?_)
     exact bodyPost_tmp rfl ha rfl ⟨(by congr 2; rw [Nd.cmpN_eq]; (repeat' split) <;> first | rfl | (exfalso; omega) | (rw [Nd.orC_pos (a := Nd.orC (cmpI T.least U.least) (cmpI T.mostI U.mostI)) (by assumption)]) | (rw [Nd.orC_z (a := Nd.orC (cmpI T.least U.least) (cmpI T.mostI U.mostI)) (by assumption)])), (((((((hE5.trans hE11).trans hE18).trans hE22).trans hE24).trans hE30).trans hE32).trans hE39)⟩
    | true =>
     refine WL.neq rfl rfl rfl rfl hc34 ?_
     have hp34 := bne_iff_ne.1 hc34
     refine WL.dn ?_
     refine cT ?_
     refine sq ?_
     refine mv ?_
     refine asg ?_
     refine WL.dn ?_
     refine WC.ret (fun a_ ha => ?_)
     refine ret_block ?_
     refine ret_then ?_
     exact bodyPost_tmp rfl ha rfl ⟨(by congr 2; rw [Nd.cmpN_eq]; (repeat' split) <;> first | rfl | (exfalso; omega) | (rw [Nd.orC_pos (a := Nd.orC (cmpI T.least U.least) (cmpI T.mostI U.mostI)) (by assumption)]) | (rw [Nd.orC_z (a := Nd.orC (cmpI T.least U.least) (cmpI T.mostI U.mostI)) (by assumption)])), ((((((hE5.trans hE11).trans hE18).trans hE22).trans hE24).trans hE30).trans hE32)⟩
  | true =>
   refine WL.eql rfl rfl rfl rfl hc14 ?_
   have hp14 := beq_iff_eq.1 hc14
   refine asg ?_
   refine WL.dn ?_
   refine cT ?_
   refine sq ?_
   refine WL.fieldAddr rfl rfl Ty.fld30_1 rfl ?_
   refine WL.load_part 4 rfl rfl rfl (hR4.ext hE11) rfl Ty.agg28 ?_
   refine WL.fieldAddr rfl rfl Ty.fld30_1 rfl ?_
   refine WL.load_part 4 rfl rfl rfl hR10 rfl Ty.agg28 ?_
   refine WL.call rfl rfl rfl Ty.ent84 (cmpS_ok _ T.set U.set (by first | exact Nd.sok_set hsT | exact Nd.sok_set hsU)) ?_
   rintro _ w16 ⟨rfl, hE15⟩
   have hzhE15 := hE15.size
   refine ⟨_, rfl, ?_⟩
   refine asg ?_
   refine WL.dn ?_
   refine WC.ret (fun a_ ha => ?_)
   refine ret_block ?_
   refine ret_then ?_
   exact bodyPost_tmp rfl ha rfl ⟨(by congr 2; rw [Nd.cmpN_eq]; (repeat' split) <;> first | rfl | (exfalso; omega) | (rw [Nd.orC_pos (a := Nd.orC (cmpI T.least U.least) (cmpI T.mostI U.mostI)) (by assumption)]) | (rw [Nd.orC_z (a := Nd.orC (cmpI T.least U.least) (cmpI T.mostI U.mostI)) (by assumption)])), ((hE5.trans hE11).trans hE15)⟩
 | true =>
  refine WL.neq rfl rfl rfl rfl hc13 ?_
  have hp13 := bne_iff_ne.1 hc13
  refine WL.dn ?_
  refine cT ?_
  refine sq ?_
  refine WL.fieldAddr rfl rfl Ty.fld30_0 rfl ?_
  refine WL.load_fld rfl rfl Ty.flat5 rfl (hR4.ext hE11) rfl ?_
  refine WL.fieldAddr rfl rfl Ty.fld30_0 rfl ?_
  refine WL.load_fld rfl rfl Ty.flat5 rfl hR10 rfl ?_
  refine WL.call rfl rfl rfl Ty.ent83 (cmp_u8 T.kind U.kind _) ?_
  rintro _ w15 ⟨rfl, hE14⟩
  have hzhE14 := hE14.size
  refine ⟨_, rfl, ?_⟩
  refine asg ?_
  refine WL.dn ?_
  refine WC.ret (fun a_ ha => ?_)
  refine ret_then ?_
  exact bodyPost_tmp rfl ha rfl ⟨(by congr 2; rw [Nd.cmpN_eq]; (repeat' split) <;> first | rfl | (exfalso; omega) | (rw [Nd.orC_pos (a := Nd.orC (cmpI T.least U.least) (cmpI T.mostI U.mostI)) (by assumption)]) | (rw [Nd.orC_z (a := Nd.orC (cmpI T.least U.least) (cmpI T.mostI U.mostI)) (by assumption)])), ((hE5.trans hE11).trans hE14)⟩
set_option maxRecDepth 20000 in
set_option maxHeartbeats 4000000 in
theorem Compare_ok (D D2 : Nat → Prop) (w : World) (l l2 : List Value) (T U : Nd) (hT : NodeL D w l T) (hU : NodeL D2 w l2 U) (hsT : T.sok = true) (hsU : U.sok = true) :
  Calls Try.prog 62 #[.agg l.toArray, .agg l2.toArray] w fun e w' => e = .returned (.int .i64 (Nd.compare T U)) ∧ Ext w w' := by
 have hT := hT.lt
 obtain ⟨a, cap, rfl, hts, hlen⟩ := hT.op2
 have hU := hU.lt
 obtain ⟨a2, cap2, rfl, hts2, hlen2⟩ := hU.op2
 refine Calls.enter (args := [.agg (tcells T (.slice a T.subs.length cap)).toArray, .agg (tcells U (.slice a2 U.subs.length cap2)).toArray]) Try.func62 rfl rfl rfl rfl ?_
 refine sq ?_
 refine WL.box_agg rfl rfl rfl (fun b1 w6 hb2 hE5 hs3 hR4 => ?_)
 refine WL.box_agg rfl rfl rfl (fun b7 w12 hb8 hE11 hs9 hR10 => ?_)
 refine asg ?_
 refine WL.dn ?_
 refine WC.seqk ?_
 refine sq ?_
 refine WL.load_box rfl rfl rfl (hR4.ext hE11) Ty.agg30 ?_
 have h13 := ((hT.ext hE5).ext hE11)
 refine WL.call rfl rfl rfl Ty.ent32 (light_ok _ _ _ _ h13) ?_
 rintro _ w15 ⟨rfl, hE14⟩
 have hzhE14 := hE14.size
 refine ⟨_, rfl, ?_⟩
 cases hc16 : Nd.light T with
 | false =>
  refine WL.not rfl rfl rfl ?_
  refine mv ?_
  refine ps ?_
  refine ps ?_
  refine ps ?_
  refine pT ?_
  refine WL.dn ?_
  refine cT ?_
  refine WC.seqk ?_
  refine WC.weaken (r' := [(2, pt b1 0), (3, pt b7 0), (4, .int .i64 0), (12, .bool true)]) (s4 (subReg_nil _)) ?_
  refine WC.region ?_
  refine asg ?_
  refine WL.dn ?_
  refine WC.ret (fun a_ ha => ?_)
  refine ret_then ?_
  exact bodyPost_tmp rfl ha rfl ⟨(by congr 2; simp [Nd.compare, hc16]), ((hE5.trans hE11).trans hE14)⟩
 | true =>
  refine WL.not rfl rfl rfl ?_
  refine mv ?_
  refine WL.load_box rfl rfl rfl (hR10.ext hE14) Ty.agg30 ?_
  have h17 := (((hU.ext hE5).ext hE11).ext hE14)
  refine WL.call rfl rfl rfl Ty.ent32 (light_ok _ _ _ _ h17) ?_
  rintro _ w19 ⟨rfl, hE18⟩
  have hzhE18 := hE18.size
  refine ⟨_, rfl, ?_⟩
  cases hc20 : Nd.light U with
  | false =>
   refine WL.not rfl rfl rfl ?_
   refine pF ?_
   refine WL.dn ?_
   refine cT ?_
   refine WC.seqk ?_
   refine WC.weaken (r' := [(2, pt b1 0), (3, pt b7 0), (4, .int .i64 0), (12, .bool true)]) (s4 (subReg_nil _)) ?_
   refine WC.region ?_
   refine asg ?_
   refine WL.dn ?_
   refine WC.ret (fun a_ ha => ?_)
   refine ret_then ?_
   exact bodyPost_tmp rfl ha rfl ⟨(by congr 2; simp [Nd.compare, hc16, hc20]), (((hE5.trans hE11).trans hE14).trans hE18)⟩
  | true =>
   refine WL.not rfl rfl rfl ?_
   refine pF ?_
   refine WL.dn ?_
   refine cF ?_
   refine WC.sk ?_
   refine WC.seqk ?_
   refine WC.weaken (r' := [(2, pt b1 0), (3, pt b7 0), (4, .int .i64 0), (12, .bool false)]) (s4 (subReg_nil _)) ?_
   refine WC.region ?_
   have h21 := (((hR4.ext hE11).ext hE14).ext hE18)
   refine WL.load_box rfl rfl rfl h21 Ty.agg30 ?_
   have h22 := ((hR10.ext hE14).ext hE18)
   refine WL.load_box rfl rfl rfl h22 Ty.agg30 ?_
   have h23 := ((h13.ext hE14).ext hE18)
   refine WL.call rfl rfl rfl Ty.ent72 (compare_ok T _ _ _ _ _ U h23 (h17.ext hE18) hsT hsU) ?_
   rintro _ w25 ⟨rfl, hE24⟩
   have hzhE24 := hE24.size
   refine ⟨_, rfl, ?_⟩
   refine asg ?_
   refine WL.dn ?_
   refine WC.ret (fun a_ ha => ?_)
   exact bodyPost_tmp rfl ha rfl ⟨(by congr 2; simp [Nd.compare, hc16, hc20]), ((((hE5.trans hE11).trans hE14).trans hE18).trans hE24)⟩
end Go.Proofs.Yteenegaadlhjdaa
namespace Go.Proofs.Yteenegaadlhjdaa
open Go.Sort Go.Shelf Go.Lib Go.RowKit
def Nd.insN (x : Nd) : List Nd → List Nd
  | [] => [x]
  | y :: l => if Nd.cmpN x y ≤ 0 then x :: y :: l else y :: Nd.insN x l
def Nd.sortT (l : List Nd) : List Nd := l.foldr Nd.insN []
theorem Nd.insN_perm (x : Nd) (l : List Nd) : (Nd.insN x l).Perm (x :: l) := by
  induction l with
  | nil => exact List.Perm.refl _
  | cons y l ih =>
    unfold Nd.insN
    split
    · exact List.Perm.refl _
    · exact (ih.cons y).trans (List.Perm.swap x y l)
theorem Nd.sortT_perm (l : List Nd) : (Nd.sortT l).Perm l := by
  induction l with
  | nil => exact List.Perm.refl _
  | cons x l ih => exact (Nd.insN_perm x _).trans (ih.cons x)
theorem Nd.insN_pw {x : Nd} {l : List Nd} (hx : Nd.Ok2 x) (hl : ∀ t ∈ l, Nd.Ok2 t) (h : l.Pairwise (fun a b => Nd.cmpN a b ≤ 0)) : (Nd.insN x l).Pairwise (fun a b => Nd.cmpN a b ≤ 0) := by
  have O := Nd.cmpN_ord
  induction l with
  | nil => exact List.pairwise_singleton _ _
  | cons y l ih =>
    have hy := hl y (by simp)
    have hp := List.pairwise_cons.1 h
    unfold Nd.insN
    split
    · rename_i hc
      refine List.pairwise_cons.2 ⟨fun z hz => ?_, h⟩
      rcases List.mem_cons.1 hz with rfl | hz
      · exact hc
      · exact O.trans _ _ _ hx hy (hl z (by simp [hz])) hc (hp.1 z hz)
    · rename_i hc
      refine List.pairwise_cons.2 ⟨fun z hz => ?_, ih (fun t ht => hl t (by simp [ht])) hp.2⟩
      rcases List.mem_cons.1 ((Nd.insN_perm x l).mem_iff.1 hz) with rfl | hz
      · have := O.anti _ _ hx hy; omega
      · exact hp.1 z hz
theorem Nd.sortT_pw {l : List Nd} (hl : ∀ t ∈ l, Nd.Ok2 t) : (Nd.sortT l).Pairwise (fun a b => Nd.cmpN a b ≤ 0) := by
  induction l with
  | nil => exact List.Pairwise.nil
  | cons x l ih => exact Nd.insN_pw (hl x (by simp)) (fun t ht => hl t (by simp [(Nd.sortT_perm l).mem_iff.1 ht])) (ih (fun t ht => hl t (by simp [ht])))
theorem Nd.sortT_uniq {l l' : List Nd} (hl : ∀ t ∈ l, Nd.Ok2 t) (hp : l'.Perm l) (hw : l'.Pairwise (fun a b => Nd.cmpN a b ≤ 0)) : l' = Nd.sortT l := by
  have O := Nd.cmpN_ord
  refine List.Perm.eq_of_pairwise (le := fun a b => Nd.cmpN a b ≤ 0) (fun a b ha hb h1 h2 => ?_) hw (Nd.sortT_pw hl) (hp.trans (Nd.sortT_perm l).symm)
  have oa := hl a (hp.mem_iff.1 ha)
  have ob := hl b ((Nd.sortT_perm l).mem_iff.1 hb)
  have := O.anti _ _ oa ob
  exact (O.eq _ _ oa ob).1 (by omega)
theorem Ext.toGrow {w w' : World} (h : Ext w w') : ∃ q os', w' = Sort.grow (w.drewN q) os' := by
  refine ⟨w'.drawn - w.drawn, w'.heap.extract w.heap.size w'.heap.size, ?_⟩
  obtain ⟨⟨h1, h2, h3, h4, h5⟩, h6⟩ := h
  cases w with
  | mk heap tape drawn os output =>
    cases w' with
    | mk heap' tape' drawn' os' output' =>
      simp only [Sort.grow, World.drewN] at *
      subst h1; subst h2; subst h3
      congr 1
      · apply Array.ext_getElem?
        intro i
        rw [Array.getElem?_append]
        split
        · rename_i hi; exact h5 i hi
        · rename_i hi
          by_cases hj : i < heap'.size
          · have e : heap.size + (i - heap.size) = i := by omega
            rw [Array.getElem?_extract, e, if_pos (by omega)]
          · rw [Array.getElem?_eq_none (by omega), Array.getElem?_eq_none (by simp; omega)]
      · omega
def SEl (D : Nat → Prop) (w : World) := { p : List Value × Nd // NodeL D w p.1 p.2 ∧ Nd.Ok2 p.2 ∧ p.2.light = true }
instance (D : Nat → Prop) (w : World) : Inhabited (SEl D w) := ⟨⟨(tcells Nd.empty (.slice none 0 0), Nd.empty), NodeL.mk' (NodesV.nil _ _ _ _), ⟨rfl, rfl⟩, rfl⟩⟩
def SEl.enc {D : Nat → Prop} {w : World} (x : SEl D w) : List Value := x.1.1
def SEl.tree {D : Nat → Prop} {w : World} (x : SEl D w) : Nd := x.1.2
theorem SEl.len {D : Nat → Prop} {w : World} (x : SEl D w) : x.enc.length = 8 := by
  obtain ⟨sl, h, _⟩ := x.2.1.opn
  unfold SEl.enc; rw [h]; rfl
theorem SEl.one {D : Nat → Prop} {w : World} (x : SEl D w) : ∀ v ∈ x.enc, v.oneCell' = true := x.2.1.one
def SEl.cf {D : Nat → Prop} {w : World} (x y : SEl D w) : Int := Nd.cmpN x.tree y.tree
theorem SEl.swo (D : Nat → Prop) (w : World) : SWO (ltOf (SEl.cf (D := D) (w := w))) := by
  have O := Nd.cmpN_ord
  have lt : ∀ x y : SEl D w, ltOf (SEl.cf (D := D) (w := w)) x y = decide (Nd.cmpN x.1.2 y.1.2 < 0) := fun _ _ => rfl
  refine ⟨fun x => ?_, fun x y z h1 h2 => ?_, fun x y z h1 h2 => ?_⟩
  · rw [lt, decide_eq_false_iff_not]
    have := (O.eq _ _ x.2.2.1 x.2.2.1).2 rfl
    omega
  · rw [lt, decide_eq_true_eq] at *
    have a1 := O.trans _ _ _ x.2.2.1 y.2.2.1 z.2.2.1 (Int.le_of_lt h1) (Int.le_of_lt h2)
    rcases Int.lt_or_eq_of_le a1 with h | h
    · exact h
    · have e := (O.eq _ _ x.2.2.1 z.2.2.1).1 h
      have a2 := O.anti _ _ x.2.2.1 y.2.2.1
      rw [e] at a2 h1
      omega
  · rw [lt, decide_eq_false_iff_not] at *
    have a1 := O.anti _ _ x.2.2.1 y.2.2.1
    have a2 := O.anti _ _ y.2.2.1 z.2.2.1
    have a3 := O.anti _ _ x.2.2.1 z.2.2.1
    have a4 := O.trans _ _ _ z.2.2.1 y.2.2.1 x.2.2.1 (by omega) (by omega)
    omega
theorem SEl.list {D : Nat → Prop} {w : World} : ∀ {ls : List (List Value)} {ts : List Nd}, RowsL D w ls ts → (∀ t ∈ ts, Nd.Ok2 t ∧ t.light = true) → ∃ ps : List (SEl D w), ps.map SEl.enc = ls ∧ ps.map SEl.tree = ts := by
  intro ls
  induction ls with
  | nil =>
    intro ts h hok
    have : ts = [] := List.eq_nil_of_length_eq_zero (by rw [← h.1]; rfl)
    subst this
    exact ⟨[], rfl, rfl⟩
  | cons l ls ih =>
    intro ts h hok
    cases ts with
    | nil => have := h.1; simp at this
    | cons t ts =>
      obtain ⟨ps, h1, h2⟩ := ih (ts := ts) ⟨by have := h.1; simpa using this, fun i l' t' e1 e2 => h.2 (i + 1) l' t' (by simpa using e1) (by simpa using e2)⟩ (fun t' ht' => hok t' (by simp [ht']))
      exact ⟨⟨(l, t), h.2 0 l t rfl rfl, hok t (by simp)⟩ :: ps, by show l :: ps.map SEl.enc = _; rw [h1], by show t :: ps.map SEl.tree = _; rw [h2]⟩
theorem flatK_toList {α : Type} [Inhabited α] (enc : α → List Value) (hk : ∀ x, (enc x).length = 8) (d : List α) : (flatK enc 8 d.toArray).toList = (d.map enc).flatten := by
  apply List.ext_getElem?
  intro i
  have hl : ((d.map enc).flatten).length = d.length * 8 := by
    have := len_flatten (d.map enc) (fun l hl => by obtain ⟨x, _, rfl⟩ := List.mem_map.1 hl; exact hk x)
    simpa using this
  by_cases hi : i < d.length * 8
  · have h1 : (flatK enc 8 d.toArray).toList[i]? = some ((flatK enc 8 d.toArray)[i]!) := by
      have : i < (flatK enc 8 d.toArray).size := by simpa using hi
      rw [Array.getElem?_toList, getElem!_pos _ i this, Array.getElem?_eq_getElem this]
    rw [h1, get_flatK _ _ _ _ (by simpa using hi)]
    have key : ∀ (l : List α) (i : Nat), i < l.length * 8 → ((l.map enc).flatten)[i]? = some ((enc l[i / 8]!)[i % 8]!) := by
      intro l
      induction l with
      | nil => intro i h; simp at h
      | cons x l ih =>
        intro i h
        simp only [List.map_cons, List.flatten_cons]
        by_cases h8 : i < 8
        · rw [List.getElem?_append_left (by rw [hk]; exact h8)]
          have e1 : i / 8 = 0 := by omega
          have e2 : i % 8 = i := by omega
          rw [e1, e2, List.getElem?_eq_getElem (by rw [hk]; exact h8)]
          show _ = some ((enc x)[i]!)
          rw [getElem!_pos _ i (by rw [hk]; exact h8)]
        · rw [List.getElem?_append_right (by rw [hk]; omega), hk, ih (i - 8) (by simp at h; omega)]
          have e1 : i / 8 = (i - 8) / 8 + 1 := by omega
          have e2 : i % 8 = (i - 8) % 8 := by omega
          rw [e1, e2]
          simp
    rw [key d i hi]
    simp
  · rw [List.getElem?_eq_none (by simpa using Nat.le_of_not_lt hi), List.getElem?_eq_none (by rw [hl]; omega)]
theorem sortWorld_grown {α : Type} [Inhabited α] (enc : α → List Value) (w : World) (blk m : Nat) (d : Array α) (os : Array Obj) : GrownD w (sortWorldK enc 8 w blk 0 m d os) (some blk) := by
  refine ⟨⟨rfl, rfl, rfl, ?_, fun k hk hne => ?_⟩, Nat.le_add_right _ _⟩
  · show w.heap.size ≤ ((w.heap.modify blk _) ++ os).size
    simp
  · show ((w.heap.modify blk _) ++ os)[k]? = _
    have hb : blk ≠ k := fun h => hne (by rw [h])
    rw [Array.getElem?_append_left (by simpa using hk), Array.getElem?_modify, if_neg hb]
theorem sortWorld_row {α : Type} [Inhabited α] (enc : α → List Value) (w : World) (blk m : Nat) (d : Array α) (os : Array Obj) {cur : Array Value} {e : TypeId} {fz : Nat × Nat} (h : w.heap[blk]? = some (.cells cur e fz)) :
    (sortWorldK enc 8 w blk 0 m d os).heap[blk]? = some (.cells (putCells id 0 (flatK enc 8 d) cur) e fz) := by
  have hlt : blk < w.heap.size := (Array.getElem?_eq_some_iff.1 h).1
  show ((w.heap.modify blk (onCells _)) ++ os)[blk]? = _
  rw [Array.getElem?_append_left (by simpa using hlt), Array.getElem?_modify, if_pos rfl, h]
  rfl
theorem putCells_take {F cur : Array Value} (h : F.size ≤ cur.size) : (putCells id 0 F cur).toList.take F.size = F.toList := by
  apply List.ext_getElem?
  intro i
  rw [List.getElem?_take]
  split
  · rename_i hi
    have h1 : i < cur.size := by omega
    simp only [putCells, Array.getElem?_toList, Array.getElem?_mapIdx, Array.getElem?_eq_getElem h1, Array.getElem?_eq_getElem hi, Option.map_some]
    rw [if_pos ⟨Nat.zero_le _, by omega⟩, Nat.sub_zero, getElem!_pos _ i hi]; rfl
  · rename_i hi
    rw [List.getElem?_eq_none (by simp; omega)]
section
theorem sort_ok (D : Nat → Prop) (w : World) (base : Nat) (v : Value) (ts : List Nd) (hO : OwnV 30 base D w v ts) (hok : ∀ t ∈ ts, Nd.Ok2 t ∧ t.light = true) :
    Calls Try.prog 61 #[v, .func (.func 62) #[] #[]] w fun e w' => e = .returned (.tuple #[]) ∧ OwnV 30 base D w' v (Nd.sortT ts) ∧ GrownD w w' v.ownBlock := by
  obtain ⟨ls, ⟨hl, hrow⟩, hR, hle⟩ := hO
  rcases hrow with ⟨rfl, h0⟩ | ⟨g, cap, cur, rfl, hg, hcell, hn, hcm, hcs, htake⟩
  · have hts : ts = [] := List.eq_nil_of_length_eq_zero h0
    subst hts
    have hcon := AnyF.slices_SortFunc_none Try.sortNd none 0 (.func (.func 62) #[] #[]) w
    change Calls Try.prog 61 _ _ _ at hcon
    refine hcon.mono ?_
    rintro e w' ⟨rfl, rfl⟩
    exact ⟨rfl, OwnV.nil _ _ _ _, ⟨⟨rfl, rfl, rfl, Nat.le_refl _, fun _ _ _ => rfl⟩, Nat.le_refl _⟩⟩
  · replace hR : RowsL (fun k => D k ∧ k < w.heap.size ∧ g ≠ k) w ls ts := hR.step (fun l t h => h.dom (fun k hk => ⟨hk.1, hk.2.1, fun e => hk.2.2 (by rw [e]; rfl)⟩))
    obtain ⟨ps, hp1, hp2⟩ := SEl.list hR hok
    subst hp1; subst hp2
    have hglt : g < w.heap.size := (Array.getElem?_eq_some_iff.1 hcell).1
    simp only [List.length_map] at hn hcm hcs htake hl hle
    have hF : (flatK SEl.enc 8 ps.toArray).toList = (ps.map SEl.enc).flatten := flatK_toList _ SEl.len ps
    have hgr : ∀ m d os, GrownD w (sortWorldK (SEl.enc (D := fun k => D k ∧ k < w.heap.size ∧ g ≠ k) (w := w)) 8 w g 0 m d os) (some g) := fun m d os => sortWorld_grown _ w g m d os
    have hnode : ∀ (x : SEl (fun k => D k ∧ k < w.heap.size ∧ g ≠ k) w) m d os, NodeL (fun k => D k ∧ k < w.heap.size ∧ g ≠ k) (sortWorldK SEl.enc 8 w g 0 m d os) x.enc x.tree :=
      fun x m d os => x.2.1.grown (hgr m d os) (fun k hk _ hh => hk.2.2 (Option.some.inj hh))
    have hcon := AnyQ.slices_SortFunc Try.sortNd 8 (fun w => run_isAgg_agg (n := 8) (by kernel_rfl)) (fun w => run_sizeOf_agg (by kernel_rfl)) SEl.enc SEl.len SEl.one SEl.cf (SEl.swo _ _) 62 #[] g 0 cap ps.toArray w (fun vs w => Ty.ent62 vs w)
      (fun m os dk _ x y => by
        refine Calls.mono (Compare_ok _ _ _ _ _ _ _ (hnode x m dk os) (hnode y m dk os) x.2.2.1.2 y.2.2.1.2) ?_
        rintro e w' ⟨rfl, hE⟩
        refine ⟨?_, hE.toGrow⟩
        have : Nd.compare x.tree y.tree = Nd.cmpN x.tree y.tree := by unfold Nd.compare; rw [show x.tree.light = true from x.2.2.2, show y.tree.light = true from y.2.2.2]; rfl
        rw [this]; rfl)
      (fun j hj => by
        have hj' : j < ps.length * 8 := by simpa using hj
        have hsz : j < (flatK SEl.enc 8 ps.toArray).size := by simpa using hj
        have hjc : j < cur.size := by rw [hcs]; exact Nat.lt_of_lt_of_le hj' (Nat.mul_le_mul_right 8 hn)
        refine ⟨?_, ?_⟩
        · simp only [World.cell?, Nat.zero_add, hcell]
          show cur[j]? = _
          have h2 : cur.toList[j]? = (flatK SEl.enc 8 ps.toArray).toList[j]? := by rw [hF, ← htake, List.getElem?_take, if_pos hj']
          rw [Array.getElem?_toList, Array.getElem?_toList] at h2
          rw [h2, Array.getElem?_eq_getElem hsz, getElem!_pos _ j hsz]; rfl
        · simp [World.frozen?, hcell]) hglt (by simp; omega)
    change Calls Try.prog 61 _ _ _ at hcon
    simp only [List.size_toArray] at hcon
    rw [List.length_map]
    refine hcon.mono ?_
    rintro e w' ⟨rfl, d', n, os, hperm, hsort, rfl⟩
    refine ⟨rfl, ?_, hgr n d' os⟩
    obtain ⟨hs1, _, hs3⟩ := hperm
    simp only [List.size_toArray] at hs1 hs3
    have hpm : d'.toList.Perm ps := by
      have e1 : d'.extract 0 ps.length = d' := by rw [← hs1]; simp
      have e2 : ps.toArray.extract 0 ps.length = ps.toArray := by simp
      rw [e1, e2] at hs3; simpa using hs3
    have hsorted : d'.toList.map SEl.tree = Nd.sortT (ps.map SEl.tree) := by
      refine Nd.sortT_uniq (fun t ht => (hok t ht).1) (hpm.map _) ?_
      rw [List.pairwise_map, List.pairwise_iff_getElem]
      intro i j hi hj hij
      have hi' : i < d'.size := by simpa using hi
      have hj' : j < d'.size := by simpa using hj
      have h := hsort i j (Nat.zero_le _) hij (by simpa [hs1] using hj')
      rw [getElem!_pos _ i hi', getElem!_pos _ j hj'] at h
      have h2 : ¬ Nd.cmpN d'[j].tree d'[i].tree < 0 := of_decide_eq_false h
      have h3 := Nd.cmpN_ord.anti _ _ (d'[i]).2.2.1 (d'[j]).2.2.1
      show Nd.cmpN d'[i].tree d'[j].tree ≤ 0
      have h4 : Nd.cmpN d'[j].tree d'[i].tree = -Nd.cmpN d'[i].tree d'[j].tree := h3
      omega
    have hlen : d'.toList.length = ps.length := hpm.length_eq
    have hF' : (flatK SEl.enc 8 d').toList = (d'.toList.map SEl.enc).flatten := by have := flatK_toList _ SEl.len d'.toList; simpa using this
    have hFs : (flatK SEl.enc 8 d').size = ps.length * 8 := by rw [size_flatK, hs1]
    rw [← hsorted]
    refine ⟨d'.toList.map SEl.enc, ⟨?_, .inr ⟨g, cap, putCells id 0 (flatK SEl.enc 8 d') cur, ?_, hg, sortWorld_row _ w g n d' os hcell, ?_, hcm, ?_, ?_⟩⟩, ⟨by simp, fun i l t h1 h2 => ?_⟩, ?_⟩
    · rw [len_flatten _ (fun l hl => by obtain ⟨x, _, rfl⟩ := List.mem_map.1 hl; exact SEl.len x)]; simp
    · rw [List.length_map, hlen]
    · rw [List.length_map, hlen]; exact hn
    · simp [putCells, hcs]
    · rw [List.length_map, hlen, ← hF', ← hFs]
      exact putCells_take (by rw [hFs, hcs]; exact Nat.mul_le_mul_right 8 hn)
    · rw [List.getElem?_map] at h1 h2
      cases hx : d'.toList[i]? with
      | none => rw [hx] at h1; simp at h1
      | some x =>
        rw [hx] at h1 h2
        simp only [Option.map_some, Option.some.injEq] at h1 h2
        subst h1; subst h2
        have hz : w.heap.size ≤ (sortWorldK SEl.enc 8 w g 0 n d' os).heap.size := (hgr n d' os).size
        exact (hnode x n d' os).dom (fun k hk => ⟨hk.1, by omega, fun hh => hk.2.2 (Option.some.inj hh)⟩)
    · rw [List.length_map, hlen]; exact hle
end
end Go.Proofs.Yteenegaadlhjdaa
namespace Go.Proofs.Yteenegaadlhjdaa
namespace Nd
def altS (l : List Nd) : S4 := l.foldl (fun s x => bif x.kind == 2 then orS s x.set else s) zero
def altO (l : List Nd) : List Nd := l.filter fun x => !(x.kind == 2) && !(x.kind == 1)
def altE (l : List Nd) : Bool := l.any fun x => x.kind == 1
def altL (l : List Nd) : List Nd := bif (ofS (altS l)).kind == 2 then altO l ++ [ofS (altS l)] else altO l
def altM (l : List Nd) : Nd := or (compactT (sortT (altL l)))
def altR (l : List Nd) : Nd := bif altE l && ((altM l).kind == 0) then empty else bif altE l then timesN (altM l) opt else altM l
def alt (ts : List Nd) : Nd := bif (or ts).kind != 4 then or ts else bif !(or ts).plain then captured (or ts).subs else altR (or ts).subs
theorem altS_succ {l : List Nd} {k : Nat} {t : Nd} (h : l[k]? = some t) : altS (l.take (k + 1)) = bif t.kind == 2 then orS (altS (l.take k)) t.set else altS (l.take k) := by
  unfold altS
  rw [List.take_add_one, h, Option.toList_some, List.foldl_append]; rfl
theorem altO_succ {l : List Nd} {k : Nat} {t : Nd} (h : l[k]? = some t) : altO (l.take (k + 1)) = altO (l.take k) ++ (bif !(t.kind == 2) && !(t.kind == 1) then [t] else []) := by
  unfold altO
  rw [List.take_add_one, h, Option.toList_some, List.filter_append]
  cases hh : (!(t.kind == 2) && !(t.kind == 1)) <;> simp [List.filter_cons, hh]
theorem altE_succ {l : List Nd} {k : Nat} {t : Nd} (h : l[k]? = some t) : altE (l.take (k + 1)) = (altE (l.take k) || (t.kind == 1)) := by
  unfold altE
  rw [List.take_add_one, h, Option.toList_some, List.any_append]; simp
theorem altO_len (l : List Nd) : (altO l).length ≤ l.length := List.length_filter_le _ _
theorem altS_ok (l : List Nd) : SOk (altS l) := by
  have : ∀ (l : List Nd) (s : S4), SOk s → SOk (l.foldl (fun s x => bif x.kind == 2 then orS s x.set else s) s) := by
    intro l
    induction l with
    | nil => intro s h; exact h
    | cons x l ih =>
      intro s h
      refine ih _ ?_
      exact cond_p SOk (each_ok orI_ok _ _) h
  exact this l _ sok_zero
theorem ofS_nice {s : S4} (h : ((ofS s).kind == 2) = true) : (ofS s).nice = true := by
  unfold ofS at h ⊢
  cases hz : (s == zero) <;> rw [hz] at h
  · simp only [cond_false]
    have : s ≠ zero := by simpa using hz
    simp [nice, pre, preL, right, set, least, most, kind, subs, this]
  · simp [none, kind] at h
theorem ofS_ok2 {s : S4} (hs : SOk s) (h : ((ofS s).kind == 2) = true) : Ok2 (ofS s) ∧ (ofS s).light = true := by
  refine ⟨⟨ofS_nice h, ?_⟩, ?_⟩
  · unfold ofS
    exact cond_p (fun t : Nd => t.sok = true) rfl (by simp [sok, pre, preL, set, hs])
  · unfold ofS
    exact cond_p (fun t : Nd => t.light = true) rfl rfl
theorem altL_ok {n : Nd} (hn : n.nice = true) (hs : n.sok = true) (hz : n.size ≤ 10000) {k : Nat} : ∀ t ∈ altL (n.subs.take k), Ok2 t ∧ t.light = true := by
  have ho : ∀ t ∈ altO (n.subs.take k), Ok2 t ∧ t.light = true := by
    intro t ht
    have hm : t ∈ n.subs := List.mem_of_mem_take (List.mem_filter.1 ht).1
    have h1 := size_le_sizeL hm
    have h2 := size_subs n
    exact ⟨⟨nice_subs hn hm, sok_subs hs hm⟩, by simp [light]; omega⟩
  unfold altL
  cases hc : ((ofS (altS (n.subs.take k))).kind == 2)
  · exact ho
  · intro t ht
    rcases List.mem_append.1 ht with h | h
    · exact ho t h
    · rw [List.mem_singleton] at h; subst h; exact ofS_ok2 (altS_ok _) hc
theorem flat_sok {kd wo : Int} {l : List Nd} (h : ∀ t ∈ l, t.sok = true) : ∀ t ∈ flat kd wo l, t.sok = true := by
  intro t ht
  obtain ⟨x, hx, hm⟩ := List.mem_flatMap.1 ht
  revert hm
  unfold flat1
  refine cond_p (fun z : List Nd => t ∈ z → t.sok = true) (fun hm => sok_subs (h x hx) hm) (cond_p (fun z : List Nd => t ∈ z → t.sok = true) (fun hm => by cases hm) (fun hm => by rw [List.mem_singleton] at hm; subst hm; exact h _ hx))
theorem checked_sok {t : Nd} (h : t.sok = true) : t.checked.sok = true := by
  unfold checked
  exact cond_p (fun z : Nd => z.sok = true) h rfl
theorem joined_sok {kd : Int} {l : List Nd} {e : Nd} (h : ∀ t ∈ l, t.sok = true) (he : e.sok = true) : (joined kd l e).sok = true := by
  unfold joined
  refine cond_p (fun z : Nd => z.sok = true) he (cond_p (fun z : Nd => z.sok = true) ?_ ?_)
  · refine checked_sok ?_
    cases l with
    | nil => rfl
    | cons x l => exact h x (by simp)
  · exact checked_sok (sok_mk sok_zero h)
theorem or_sok {l : List Nd} (h : ∀ t ∈ l, t.sok = true) : (or l).sok = true := by
  unfold or
  exact cond_p (fun z : Nd => z.sok = true) rfl (joined_sok (flat_sok h) rfl)
theorem seq_sok {l : List Nd} (h : ∀ t ∈ l, t.sok = true) : (seq l).sok = true := by
  unfold seq
  exact cond_p (fun z : Nd => z.sok = true) rfl (joined_sok (flat_sok h) rfl)
theorem compactT_len (l : List Nd) : (compactT l).length ≤ l.length := by
  have : ∀ (l : List Nd) (p : Nd), (dd p l).length ≤ l.length := by
    intro l
    induction l with
    | nil => intro p; exact Nat.le_refl _
    | cons y l ih =>
      intro p
      simp only [dd]
      refine cond_p (fun z : List Nd => z.length ≤ (y :: l).length) ?_ ?_
      · have := ih y; simp; omega
      · have := ih y; simp; omega
  cases l with
  | nil => exact Nat.le_refl _
  | cons x l => have := this l x; simp [compactT]; omega
theorem altL_len (l : List Nd) : (compactT (sortT (altL l))).length ≤ l.length + 1 := by
  have h1 := compactT_len (sortT (altL l))
  have h2 := (sortT_perm (altL l)).length_eq
  have h3 := altO_len l
  have h4 : (altL l).length ≤ l.length + 1 := by
    unfold altL
    exact cond_p (fun z : List Nd => z.length ≤ l.length + 1) (by simp; omega) (by omega)
  omega
end Nd
theorem sort_okG (D : Nat → Prop) (wb w : World) (base : Nat) (v : Value) (ts : List Nd) (hE0 : Ext wb w) (hwb : wb.heap.size ≤ base) (hO : OwnV 30 base D w v ts) (hok : ∀ t ∈ ts, Nd.Ok2 t ∧ t.light = true) :
    Calls Try.prog 61 #[v, .func (.func 62) #[] #[]] w fun e w' => e = .returned (.tuple #[]) ∧ OwnV 30 base D w' v (Nd.sortT ts) ∧ Ext wb w' := by
  refine (sort_ok D w base v ts hO hok).mono ?_
  rintro e w' ⟨he, h1, h2⟩
  exact ⟨he, h1, grown_below h2 hE0 (fun k hk => by have := hO.own k hk; omega)⟩
end Go.Proofs.Yteenegaadlhjdaa
namespace Go.Proofs.Yteenegaadlhjdaa
open Go.Proofs Go.RowKit
set_option maxRecDepth 20000 in
set_option maxHeartbeats 4000000 in
theorem alt_ok (D : Nat → Prop) (w : World) (a : Option Addr) (cap : Nat) (ts : List Nd) (hts : NodesV D w (.slice a ts.length cap) ts) (hle : ts.length ≤ 10000) (hsok : ∀ t ∈ ts, t.sok = true) :
  Calls Try.prog 45 #[.slice a ts.length cap] w fun e w' => ∃ l', e = .returned (.agg l'.toArray) ∧ NodeL (fun k => w.heap.size ≤ k) w' l' (Nd.alt ts) ∧ Ext w w' := by
 have hlen := hts.len
 have hts := hts.lt
 refine Calls.enter (args := [.slice a ts.length cap]) Try.func45 rfl rfl rfl rfl ?_
 refine sq ?_
 refine WL.alloc rfl rfl Ty.zero30 rfl (fun b1 w6 hb2 hE5 hs3 hR4 => ?_)
 refine WL.dn ?_
 refine sq ?_
 refine mv ?_
 refine WL.call rfl rfl rfl Ty.ent10 (or_ok _ _ _ _ ts (hts.ext hE5) hle) ?_
 rintro _ w9 ⟨l7, rfl, hr7, hE8⟩
 have hzhE8 := hE8.size
 refine ⟨_, rfl, ?_⟩
 have hn7 := hr7.lt
 obtain ⟨a7, cap7, rfl, hts7, hlen7⟩ := hn7.op2
 refine WL.alloc rfl rfl Ty.zero30 rfl (fun b10 w15 hb11 hE14 hs12 hR13 => ?_)
 refine WL.store_box rfl rfl rfl hR13 Ty.agg30 rfl rfl (fun w18 hB17 hR16 => ?_)
 have hzhB17 := hB17.size
 refine WL.dn ?_
 refine WC.seqk ?_
 refine sq ?_
 refine WL.fieldAddr rfl rfl Ty.fld30_0 rfl ?_
 refine WL.load_fld rfl rfl Ty.flat5 rfl hR16 rfl ?_
 cases hc19 : (((Nd.or ts).kind : Int) != 4) with
 | false =>
  refine WL.neq rfl rfl rfl rfl hc19 ?_
  have hp19 := bne_eq_false_iff_eq.1 hc19
  refine WL.dn ?_
  refine cF ?_
  refine WC.sk ?_
  refine WC.seqk ?_
  refine sq ?_
  refine WL.load_box rfl rfl rfl hR16 Ty.agg30 ?_
  have h20 := ((hn7.ext hE14).bu hB17)
  refine WL.call rfl rfl rfl Ty.ent26 (plain_ok (Nd.or ts) _ _ _ h20) ?_
  rintro _ w22 ⟨rfl, hE21⟩
  have hzhE21 := hE21.size
  refine ⟨_, rfl, ?_⟩
  cases hc23 : Nd.plain (Nd.or ts) with
  | false =>
   refine WL.not rfl rfl rfl ?_
   refine WL.dn ?_
   refine cT ?_
   refine WC.seqk ?_
   refine WC.weaken (r' := [(2, pt b1 0), (3, pt b10 0), (14, .bool false), (18, .bool true)]) (s4 (subReg_nil _)) ?_
   refine WC.region ?_
   refine WL.fieldAddr rfl rfl Ty.fld30_4 rfl ?_
   refine WL.load_fld rfl rfl Ty.flat24 rfl (hR16.ext hE21) rfl ?_
   have h24 := (((hts7.ext hE14).bu hB17).ext hE21)
   refine WL.call rfl rfl rfl Ty.ent58 (captured_ok _ _ _ _ ((Nd.or ts).subs) h24 (by have h2 := Nd.good_size (Nd.or_good ts); have h3 := Nd.size_subs (Nd.or ts); have h4 := Nd.length_le_sizeL (Nd.or ts).subs; omega)) ?_
   rintro _ w27 ⟨l25, rfl, hr25, hE26⟩
   have hzhE26 := hE26.size
   refine ⟨_, rfl, ?_⟩
   have hn25 := hr25.lt
   obtain ⟨a25, cap25, rfl, hts25, hlen25⟩ := hn25.op2
   have h30 := (((hB17.row ((hR4.ext hE8).ext hE14) (by omega)).ext hE21).ext hE26)
   refine WL.store_box rfl rfl rfl h30 Ty.agg30 rfl rfl (fun w31 hB29 hR28 => ?_)
   have hzhB29 := hB29.size
   refine WL.dn ?_
   refine WC.ret (fun a_ ha => ?_)
   refine ret_then ?_
   exact bodyPost_cell (l := (tcells (Nd.captured ((Nd.or ts).subs)) (.slice a25 (Nd.captured ((Nd.or ts).subs)).subs.length cap25))) rfl ha rfl Ty.agg30 hR28 ⟨_, rfl, (by simp only [Nd.alt, hc19, hc23, cond_true, cond_false, Bool.not_true, Bool.not_false, Bool.or_true, Bool.true_or, Bool.or_false, Bool.false_or, Bool.and_true, Bool.true_and, Bool.and_false, Bool.false_and]; exact ((hn25.bu hB29).dom (by intro k hk; (try dsimp only at hk); first | omega | exact hk.1.elim))), (hB29.onto (((hB17.onto ((hE5.trans hE8).trans hE14) (by omega)).trans hE21).trans hE26) (by omega))⟩
  | true =>
   refine WL.not rfl rfl rfl ?_
   refine WL.dn ?_
   refine cF ?_
   refine WC.sk ?_
   refine WC.seqk ?_
   refine WC.weaken (r' := [(2, pt b1 0), (3, pt b10 0), (14, .bool false), (18, .bool false)]) (s4 (subReg_nil _)) ?_
   refine WC.region ?_
   refine WL.alloc rfl rfl Ty.zero28 rfl (fun b24 w29 hb25 hE28 hs26 hR27 => ?_)
   refine WL.dn ?_
   refine sq ?_
   refine asg ?_
   refine WL.dn ?_
   refine sq ?_
   refine asg ?_
   refine WL.dn ?_
   refine WC.seqk ?_
   refine sq ?_
   refine WL.fieldAddr rfl rfl Ty.fld30_4 rfl ?_
   have h30 := ((hR16.ext hE21).ext hE28)
   refine WL.load_fld rfl rfl Ty.flat24 rfl h30 rfl ?_
   refine WL.len rfl rfl Try.underlying24 rfl ?_
   refine mv ?_
   refine WL.dn ?_
   refine WC.block ?_
   have h31 := (((hB17.row ((hR4.ext hE8).ext hE14) (by omega)).ext hE21).ext hE28)
   have h32 := ((((hts7.ext hE14).bu hB17).ext hE21).ext hE28)
   have hni : (Nd.or ts).nice = true := Nd.good_nice (Nd.or_good ts) (by omega)
   have hsn := Nd.or_sok hsok
   have hD : ∀ k, (w6.heap.size ≤ k ∧ k < w9.heap.size) → k < w29.heap.size := fun k h => by omega
   refine WC.weaken (r' := [(2, pt b1 0), (3, pt b10 0), (4, pt b24 0), (24, .int .i64 ((Nd.or ts).subs.length)), (23, .slice a7 ((Nd.or ts).subs.length) cap7), (25, .int .i64 0), (5, .slice none 0 0), (6, .bool false)]) (s4 (s4 (subReg_nil _))) ?_
   refine WC.loop (σ := Nat × Value × Bool) (fun s r_ w_ => r_ = [(2, pt b1 0), (3, pt b10 0), (4, pt b24 0), (24, .int .i64 ((Nd.or ts).subs.length)), (23, .slice a7 ((Nd.or ts).subs.length) cap7), (25, .int .i64 (s.1 : Int)), (5, s.2.1), (6, .bool s.2.2)] ∧ Ext w22 w_ ∧ (s.1 ≤ (Nd.or ts).subs.length ∧ Row w_ b24 [.int .u64 (Nd.altS ((Nd.or ts).subs.take s.1)).a, .int .u64 (Nd.altS ((Nd.or ts).subs.take s.1)).b, .int .u64 (Nd.altS ((Nd.or ts).subs.take s.1)).c, .int .u64 (Nd.altS ((Nd.or ts).subs.take s.1)).d] 28 ∧ NodesV (fun k => w6.heap.size ≤ k ∧ k < w9.heap.size) w_ (.slice a7 ((Nd.or ts).subs.length) cap7) (Nd.or ts).subs ∧ OwnV 30 w29.heap.size (fun k => w6.heap.size ≤ k ∧ k < w9.heap.size) w_ s.2.1 (Nd.altO ((Nd.or ts).subs.take s.1)) ∧ w29.heap.size ≤ w_.heap.size ∧ s.2.2 = Nd.altE ((Nd.or ts).subs.take s.1))) (fun s => (Nd.or ts).subs.length - s.1) (0, .slice none 0 0, false) ⟨rfl, hE28, ⟨Nat.zero_le _, hR27, h32.dom (by intro k h1; (try dsimp only at h1); (repeat' first | (guard_hyp h1 : _ ∨ _; refine Or.elim h1 (fun h1 => ?_) (fun h1 => ?_)) | (guard_hyp h1 : _ ∧ _; have hx := h1.2; replace h1 := h1.1)) <;> first | contradiction | exact ⟨by omega, by omega⟩), OwnV.nil _ _ _ _, Nat.le_refl _, rfl⟩⟩ ?_
   rintro ⟨k, v, em⟩ r_ w35 ⟨rfl, hE33, hI34⟩
   have hzhE33 := hE33.size
   dsimp only at hI34
   obtain ⟨hk, hRs, hts, hO, hWw, hEe⟩ := hI34
   have hts := hts.lt
   have hol := hO.own
   refine WC.weaken (r' := [(2, pt b1 0), (3, pt b10 0), (4, pt b24 0), (24, .int .i64 ((Nd.or ts).subs.length)), (23, .slice a7 ((Nd.or ts).subs.length) cap7), (25, .int .i64 (k : Int)), (5, v), (6, .bool em)]) (s4 (s4 (subReg_nil _))) ?_
   refine sq ?_
   cases hc36 : decide (((k : Int) : Int) < ((Nd.or ts).subs.length)) with
   | false =>
    refine WL.lss rfl rfl rfl rfl hc36 ?_
    have hp36 := of_decide_eq_false hc36
    refine WL.dn ?_
    refine WC.seqk ?_
    refine cF ?_
    refine WC.exit (fun a_ ha => ?_)
    refine exit_then ?_
    refine exit_then ?_
    refine exit_here ?_
    refine WC.at ?_ ha
    refine WC.seqk ?_
    refine sq ?_
    refine WL.load_box rfl rfl rfl hRs Ty.agg28 ?_
    refine WL.call rfl rfl rfl Ty.ent60 (of_ok _ (Nd.altS ((Nd.or ts).subs.take k))) ?_
    rintro _ w39 ⟨l37, rfl, hr37, hE38⟩
    have hzhE38 := hE38.size
    refine ⟨_, rfl, ?_⟩
    have hn37 := hr37.lt
    obtain ⟨a37, cap37, rfl, hts37, hlen37⟩ := hn37.op2
    refine WL.alloc rfl rfl Ty.zero30 rfl (fun b40 w45 hb41 hE44 hs42 hR43 => ?_)
    refine WL.store_box rfl rfl rfl hR43 Ty.agg30 rfl rfl (fun w48 hB47 hR46 => ?_)
    have hzhB47 := hB47.size
    refine WL.dn ?_
    refine sq ?_
    refine WL.fieldAddr rfl rfl Ty.fld30_0 rfl ?_
    refine WL.load_fld rfl rfl Ty.flat5 rfl hR46 rfl ?_
    cases hc49 : (((Nd.ofS (Nd.altS ((Nd.or ts).subs.take k))).kind : Int) == 2) with
    | false =>
     refine WL.eql rfl rfl rfl rfl hc49 ?_
     have hp49 := beq_eq_false_iff_ne.1 hc49
     refine WL.dn ?_
     refine cF ?_
     refine WC.sk ?_
     refine sq ?_
     refine mv ?_
     have h51 := (((hO.ext hE38).ext hE44).but hB47 (fun h1 => by have := hD _ h1; first | omega | (dsimp only at h1; omega)) (fun hk => by have := ((hO.ext hE38).ext hE44).own _ hk; have := hol _ hk; omega))
     have hal : (Nd.altO ((Nd.or ts).subs.take k)) = Nd.altL ((Nd.or ts).subs.take k) := by simp only [Nd.altL, hc49, cond_true, cond_false]
     refine WL.call rfl rfl rfl Ty.ent61 (sort_okG _ _ _ _ _ _ (hB47.onto ((hE33.trans hE38).trans hE44) (by omega)) (by omega) h51 (by rw [hal]; exact Nd.altL_ok hni hsn (Nd.good_size (Nd.or_good ts)))) ?_
     rintro _ w53 ⟨rfl, hO50, hE52⟩
     have hzhE52 := hE52.size
     refine ⟨_, rfl, ?_⟩
     refine WL.dn ?_
     refine sq ?_
     refine mv ?_
     refine WL.call rfl rfl rfl Ty.ent63 (compact_ok _ _ _ _ _ _ hE52 (by omega) hO50) ?_
     rintro _ w56 ⟨v54, rfl, hO54, hE55⟩
     have hzhE55 := hE55.size
     refine ⟨_, rfl, ?_⟩
     obtain ⟨a54, cap54, rfl, hnn54, hx54⟩ := hO54.cases
     have hts54 := hO54.nodes.lt
     refine WL.call rfl rfl rfl Ty.ent10 (or_ok _ _ _ _ (Nd.compactT (Nd.sortT (Nd.altO ((Nd.or ts).subs.take k)))) hts54 (by rw [hal]; have h1 := Nd.altL_len ((Nd.or ts).subs.take k); have h2 := Nd.good_size (Nd.or_good ts); have h3 := Nd.size_subs (Nd.or ts); have h4 := Nd.length_le_sizeL (Nd.or ts).subs; have h5 := List.length_take_le k (Nd.or ts).subs; omega)) ?_
     rintro _ w59 ⟨l57, rfl, hr57, hE58⟩
     have hzhE58 := hE58.size
     refine ⟨_, rfl, ?_⟩
     have hn57 := hr57.lt
     obtain ⟨a57, cap57, rfl, hts57, hlen57⟩ := hn57.op2
     have h62 := (((hR16.ext hE21).ext hE55).ext hE58)
     refine WL.store_box rfl rfl rfl h62 Ty.agg30 rfl rfl (fun w63 hB61 hR60 => ?_)
     have hzhB61 := hB61.size
     refine WL.dn ?_
     refine WC.seqk ?_
     refine WC.block ?_
     refine sq ?_
     refine mv ?_
     refine mv ?_
     cases hc64 : em with
     | false =>
      refine ps ?_
      refine ps ?_
      refine ps ?_
      refine pF ?_
      refine asg ?_
      refine WL.dn ?_
      refine cF ?_
      refine sq ?_
      refine mv ?_
      refine asg ?_
      refine WL.dn ?_
      refine cF ?_
      refine WC.sk ?_
      refine sq ?_
      refine WL.load_box rfl rfl rfl hR60 Ty.agg30 ?_
      have h67 := (hB61.row ((((hB17.row ((hR4.ext hE8).ext hE14) (by omega)).ext hE21).ext hE55).ext hE58) (by omega))
      refine WL.store_box rfl rfl rfl h67 Ty.agg30 rfl rfl (fun w68 hB66 hR65 => ?_)
      have hzhB66 := hB66.size
      refine WL.dn ?_
      refine WC.ret (fun a_ ha => ?_)
      have h69 := ((hn57.bu hB61).bu hB66)
      exact bodyPost_cell (l := (tcells (Nd.or (Nd.compactT (Nd.sortT (Nd.altO ((Nd.or ts).subs.take k))))) (.slice a57 (Nd.or (Nd.compactT (Nd.sortT (Nd.altO ((Nd.or ts).subs.take k))))).subs.length cap57))) rfl ha rfl Ty.agg30 hR65 ⟨_, rfl, (by have e9 : Nd.altR (Nd.or ts).subs = Nd.altR ((Nd.or ts).subs.take k) := (by rw [List.take_of_length_le (by omega)]); simp only [Nd.alt, hc19, hc23, hc36, hc49, hc64, cond_true, cond_false, Bool.not_true, Bool.not_false, Bool.or_true, Bool.true_or, Bool.or_false, Bool.false_or, Bool.and_true, Bool.true_and, Bool.and_false, Bool.false_and]; rw [e9]; simp only [Nd.altR, Nd.altM, ← hal, ← hEe, hc19, hc23, hc36, hc49, hc64, cond_true, cond_false, Bool.not_true, Bool.not_false, Bool.or_true, Bool.true_or, Bool.or_false, Bool.false_or, Bool.and_true, Bool.true_and, Bool.and_false, Bool.false_and]; exact (h69.dom (by intro k hk; (try dsimp only at hk); first | omega | exact hk.1.elim))), (hB66.onto (hB61.onto ((((hB17.onto ((hE5.trans hE8).trans hE14) (by omega)).trans hE21).trans hE55).trans hE58) (by omega)) (by omega))⟩
     | true =>
      refine WL.fieldAddr rfl rfl Ty.fld30_0 rfl ?_
      refine WL.load_fld rfl rfl Ty.flat5 rfl hR60 rfl ?_
      cases hc65 : (((Nd.or (Nd.compactT (Nd.sortT (Nd.altO ((Nd.or ts).subs.take k))))).kind : Int) == 0) with
      | false =>
       refine WL.eql rfl rfl rfl rfl hc65 ?_
       have hp65 := beq_eq_false_iff_ne.1 hc65
       refine pT ?_
       refine asg ?_
       refine WL.dn ?_
       refine cF ?_
       refine sq ?_
       refine mv ?_
       refine asg ?_
       refine WL.dn ?_
       refine cT ?_
       refine WC.seqk ?_
       have h66 := ((hts54.ext hE58).bu hB61)
       have h67 := (hB61.row ((((hB17.row ((hR4.ext hE8).ext hE14) (by omega)).ext hE21).ext hE55).ext hE58) (by omega))
       refine WC.weaken (r' := [(2, pt b1 0), (3, pt b10 0), (4, pt b24 0), (24, .int .i64 ((Nd.or ts).subs.length)), (23, .slice a7 ((Nd.or ts).subs.length) cap7), (25, .int .i64 (k : Int)), (5, v), (6, .bool true), (26, .bool false), (44, .agg #[.int .u64 (Nd.altS ((Nd.or ts).subs.take k)).a, .int .u64 (Nd.altS ((Nd.or ts).subs.take k)).b, .int .u64 (Nd.altS ((Nd.or ts).subs.take k)).c, .int .u64 (Nd.altS ((Nd.or ts).subs.take k)).d]), (45, .agg (tcells (Nd.ofS (Nd.altS ((Nd.or ts).subs.take k))) (.slice a37 (Nd.ofS (Nd.altS ((Nd.or ts).subs.take k))).subs.length cap37)).toArray), (9, pt b40 0), (46, pt b40 0), (47, .int .u8 ((Nd.ofS (Nd.altS ((Nd.or ts).subs.take k))).kind)), (48, .bool false), (53, v), (54, .tuple #[]), (55, v), (56, .slice a54 ((Nd.compactT (Nd.sortT (Nd.altO ((Nd.or ts).subs.take k)))).length) cap54), (57, .agg (tcells (Nd.or (Nd.compactT (Nd.sortT (Nd.altO ((Nd.or ts).subs.take k))))) (.slice a57 (Nd.or (Nd.compactT (Nd.sortT (Nd.altO ((Nd.or ts).subs.take k))))).subs.length cap57)).toArray), (59, .bool true), (60, .bool true), (61, pt b10 0), (62, .int .u8 ((Nd.or (Nd.compactT (Nd.sortT (Nd.altO ((Nd.or ts).subs.take k))))).kind)), (63, .bool false), (64, .bool false), (58, .bool false), (67, .bool true), (66, .bool true)]) (s4 (s4 (s4 (s4 (s4 (s4 (s4 (sr rfl (subReg_nil _))))))))) ?_
       refine WC.draw 2 [68, 69] [pc (.agg (tcells (Nd.or (Nd.compactT (Nd.sortT (Nd.altO ((Nd.or ts).subs.take k))))) (.slice a57 (Nd.or (Nd.compactT (Nd.sortT (Nd.altO ((Nd.or ts).subs.take k))))).subs.length cap57)).toArray), pc (.agg #[.int .i64 Nd.opt.1, .int .i64 Nd.opt.2])] (by kernel_rfl) (by kernel_rfl) ⟨KW_pc _, KW_pc _, trivial⟩ rfl rfl rfl (sc ?_ (sc ?_ (StepsOn.nil _))) ?_
       ·intro σ β w1 hE1 hbi hk
        refine ⟨[], (agree_nil _), ?_⟩
        refine WL.load_box rfl rfl rfl (hR60.ext hE1) Ty.agg30 ?_
        exact dq hbi rfl
       ·intro σ β w1 hE1 hbi hk
        refine ⟨[], (agree_nil _), ?_⟩
        refine WL.call rfl rfl rfl Ty.ent52 (opt_ok _) ?_
        rintro _ w89 ⟨rfl, hE88⟩
        refine ⟨_, rfl, ?_⟩
        exact dqE hbi hE88 rfl
       intro σ β w68 hE68 hbi68 hk
       have hz68 := hE68.size
       have hbi := hbi68
       refine WL.know [(68, .agg (tcells (Nd.or (Nd.compactT (Nd.sortT (Nd.altO ((Nd.or ts).subs.take k))))) (.slice a57 (Nd.or (Nd.compactT (Nd.sortT (Nd.altO ((Nd.or ts).subs.take k))))).subs.length cap57)).toArray), (69, .agg #[.int .i64 Nd.opt.1, .int .i64 Nd.opt.2])] (aj hk 0 (aj hk 1 (agree_nil _))) ?_
       have h71 := ((hn57.bu hB61).ext hE68)
       refine WL.call rfl rfl rfl Ty.ent42 (timesN_ok _ _ _ (Nd.or (Nd.compactT (Nd.sortT (Nd.altO ((Nd.or ts).subs.take k))))) Nd.opt h71 (Nd.good_nice (Nd.or_good _) (by omega))) ?_
       rintro _ w74 ⟨l72, rfl, hr72, hE73⟩
       have hzhE73 := hE73.size
       refine ⟨_, rfl, ?_⟩
       have hn72 := hr72.lt
       obtain ⟨a72, cap72, rfl, hts72, hlen72⟩ := hn72.op2
       have h77 := ((h67.ext hE68).ext hE73)
       refine WL.store_box rfl rfl rfl h77 Ty.agg30 rfl rfl (fun w78 hB76 hR75 => ?_)
       have hzhB76 := hB76.size
       refine WL.dn ?_
       refine WC.ret (fun a_ ha => ?_)
       refine ret_block ?_
       refine ret_then ?_
       exact bodyPost_cell (l := (tcells (Nd.timesN (Nd.or (Nd.compactT (Nd.sortT (Nd.altO ((Nd.or ts).subs.take k))))) Nd.opt) (.slice a72 (Nd.timesN (Nd.or (Nd.compactT (Nd.sortT (Nd.altO ((Nd.or ts).subs.take k))))) Nd.opt).subs.length cap72))) rfl ha rfl Ty.agg30 hR75 ⟨_, rfl, (by have e9 : Nd.altR (Nd.or ts).subs = Nd.altR ((Nd.or ts).subs.take k) := (by rw [List.take_of_length_le (by omega)]); simp only [Nd.alt, hc19, hc23, hc36, hc49, hc64, hc65, cond_true, cond_false, Bool.not_true, Bool.not_false, Bool.or_true, Bool.true_or, Bool.or_false, Bool.false_or, Bool.and_true, Bool.true_and, Bool.and_false, Bool.false_and]; rw [e9]; simp only [Nd.altR, Nd.altM, ← hal, ← hEe, hc19, hc23, hc36, hc49, hc64, hc65, cond_true, cond_false, Bool.not_true, Bool.not_false, Bool.or_true, Bool.true_or, Bool.or_false, Bool.false_or, Bool.and_true, Bool.true_and, Bool.and_false, Bool.false_and]; exact ((hn72.bu hB76).dom (by intro k hk; (try dsimp only at hk); first | omega | exact hk.1.elim))), (hB76.onto (((hB61.onto ((((hB17.onto ((hE5.trans hE8).trans hE14) (by omega)).trans hE21).trans hE55).trans hE58) (by omega)).trans hE68).trans hE73) (by omega))⟩
      | true =>
       refine WL.eql rfl rfl rfl rfl hc65 ?_
       have hp65 := beq_iff_eq.1 hc65
       refine pT ?_
       refine asg ?_
       refine WL.dn ?_
       refine cT ?_
       refine sq ?_
       refine WL.build (l := (zc 1 0 0 (.slice none 0 0))) rfl rfl Ty.zero30 Ty.st30 ⟨⟨rfl, rfl⟩, (by kernel_rfl)⟩ ?_
       have hn66 : NodeL _ w63 (zc 1 0 0 (.slice none 0 0)) (Nd.mk 1 Nd.zero 0 0 ([])) := NodeL.shut (k := 1) (s := Nd.zero) (mn := 0) (mx := 0) (sl := .slice none 0 0) (ts := []) (NodesV.nil (fun _ => False) _ none 0)
       have hn66 := hn66.lt
       have h69 := (hB61.row ((((hB17.row ((hR4.ext hE8).ext hE14) (by omega)).ext hE21).ext hE55).ext hE58) (by omega))
       refine WL.store_box rfl rfl rfl h69 Ty.agg30 rfl rfl (fun w70 hB68 hR67 => ?_)
       have hzhB68 := hB68.size
       refine WL.dn ?_
       refine WC.ret (fun a_ ha => ?_)
       refine ret_block ?_
       refine ret_then ?_
       exact bodyPost_cell (l := (zc 1 0 0 (.slice none 0 0))) rfl ha rfl Ty.agg30 hR67 ⟨_, rfl, (by have e9 : Nd.altR (Nd.or ts).subs = Nd.altR ((Nd.or ts).subs.take k) := (by rw [List.take_of_length_le (by omega)]); simp only [Nd.alt, hc19, hc23, hc36, hc49, hc64, hc65, cond_true, cond_false, Bool.not_true, Bool.not_false, Bool.or_true, Bool.true_or, Bool.or_false, Bool.false_or, Bool.and_true, Bool.true_and, Bool.and_false, Bool.false_and]; rw [e9]; simp only [Nd.altR, Nd.altM, ← hal, ← hEe, hc19, hc23, hc36, hc49, hc64, hc65, cond_true, cond_false, Bool.not_true, Bool.not_false, Bool.or_true, Bool.true_or, Bool.or_false, Bool.false_or, Bool.and_true, Bool.true_and, Bool.and_false, Bool.false_and]; exact ((hn66.bu hB68).dom (by intro k hk; (try dsimp only at hk); first | omega | exact hk.1.elim))), (hB68.onto (hB61.onto ((((hB17.onto ((hE5.trans hE8).trans hE14) (by omega)).trans hE21).trans hE55).trans hE58) (by omega)) (by omega))⟩
    | true =>
     refine WL.eql rfl rfl rfl rfl hc49 ?_
     have hp49 := beq_iff_eq.1 hc49
     refine WL.dn ?_
     refine cT ?_
     refine WC.region ?_
     refine mv ?_
     refine WL.load_box rfl rfl rfl hR46 Ty.agg30 ?_
     have h50 := ((hn37.ext hE44).bu hB47)
     refine WL.buildSlice (vs := [.agg (tcells (Nd.ofS (Nd.altS ((Nd.or ts).subs.take k))) (.slice a37 (Nd.ofS (Nd.altS ((Nd.or ts).subs.take k))).subs.length cap37)).toArray]) (cells := (tcells (Nd.ofS (Nd.altS ((Nd.or ts).subs.take k))) (.slice a37 (Nd.ofS (Nd.altS ((Nd.or ts).subs.take k))).subs.length cap37))) rfl rfl Ty.slice24 Ty.zero30 rfl rfl rfl rfl rfl rfl (fun b51 w56 hb52 hE55 hs53 hR54 => ?_)
     have hts51 := (NodesV.lit (n := 1) (ts := [(Nd.ofS (Nd.altS ((Nd.or ts).subs.take k)))]) hR54 (RowsL.cons (h50.ext hE55) (RowsL.nil' _)) rfl rfl (by decide)).lt
     have h57 := ((((hO.ext hE38).ext hE44).but hB47 (fun h1 => by have := hD _ h1; first | omega | (dsimp only at h1; omega)) (fun hk => by have := ((hO.ext hE38).ext hE44).own _ hk; have := hol _ hk; omega)).ext hE55)
     have hol58 := h57.own
     refine WL.append1 rfl rfl Ty.slice24 Ty.zero30 rfl small_node rfl rfl h57 hR54 (h50.ext hE55) (by intro k h1 hh; have := hol58 _ hh; have := hol _ hh; first | omega | ((try dsimp only at h1); (repeat' first | (guard_hyp h1 : _ ∨ _; refine Or.elim h1 (fun h1 => ?_) (fun h1 => ?_)) | (guard_hyp h1 : _ ∧ _; have hx := h1.2; replace h1 := h1.1)) <;> first | contradiction | omega)) (by have h0 := Nd.altO_len ((Nd.or ts).subs.take k); have h2 := Nd.good_size (Nd.or_good ts); have h3 := Nd.size_subs (Nd.or ts); have h4 := Nd.length_le_sizeL (Nd.or ts).subs; have h5 := List.length_take_le k (Nd.or ts).subs; omega) (by omega) ?_
     intro v58 w58 hG58 hO58 hv58
     have hE58 := grown_below hG58 ((hB47.onto (((((hB17.onto ((hE5.trans hE8).trans hE14) (by omega)).trans hE21).trans hE33).trans hE38).trans hE44) (by omega)).trans hE55) (by intro k hk; have := hol58 _ hk; omega)
     have hz58 := hE58.size
     have hzz58 := hG58.size
     refine asg ?_
     refine WL.dn ?_
     refine sq ?_
     refine mv ?_
     have hal : (Nd.altO ((Nd.or ts).subs.take k)) ++ [(Nd.ofS (Nd.altS ((Nd.or ts).subs.take k)))] = Nd.altL ((Nd.or ts).subs.take k) := by simp only [Nd.altL, hc49, cond_true, cond_false]
     refine WL.call rfl rfl rfl Ty.ent61 (sort_okG _ _ _ _ _ _ (grown_below hG58 ((hB47.onto ((hE33.trans hE38).trans hE44) (by omega)).trans hE55) (by intro k hh; have := hol58 _ hh; have := hol _ hh; omega)) (by omega) hO58 (by rw [hal]; exact Nd.altL_ok hni hsn (Nd.good_size (Nd.or_good ts)))) ?_
     rintro _ w61 ⟨rfl, hO59, hE60⟩
     have hzhE60 := hE60.size
     refine ⟨_, rfl, ?_⟩
     refine WL.dn ?_
     refine sq ?_
     refine mv ?_
     refine WL.call rfl rfl rfl Ty.ent63 (compact_ok _ _ _ _ _ _ hE60 (by omega) hO59) ?_
     rintro _ w64 ⟨v62, rfl, hO62, hE63⟩
     have hzhE63 := hE63.size
     refine ⟨_, rfl, ?_⟩
     obtain ⟨a62, cap62, rfl, hnn62, hx62⟩ := hO62.cases
     have hts62 := hO62.nodes.lt
     refine WL.call rfl rfl rfl Ty.ent10 (or_ok _ _ _ _ (Nd.compactT (Nd.sortT ((Nd.altO ((Nd.or ts).subs.take k)) ++ [(Nd.ofS (Nd.altS ((Nd.or ts).subs.take k)))]))) hts62 (by rw [hal]; have h1 := Nd.altL_len ((Nd.or ts).subs.take k); have h2 := Nd.good_size (Nd.or_good ts); have h3 := Nd.size_subs (Nd.or ts); have h4 := Nd.length_le_sizeL (Nd.or ts).subs; have h5 := List.length_take_le k (Nd.or ts).subs; omega)) ?_
     rintro _ w67 ⟨l65, rfl, hr65, hE66⟩
     have hzhE66 := hE66.size
     refine ⟨_, rfl, ?_⟩
     have hn65 := hr65.lt
     obtain ⟨a65, cap65, rfl, hts65, hlen65⟩ := hn65.op2
     have h70 := (((hR16.ext hE21).ext hE63).ext hE66)
     refine WL.store_box rfl rfl rfl h70 Ty.agg30 rfl rfl (fun w71 hB69 hR68 => ?_)
     have hzhB69 := hB69.size
     refine WL.dn ?_
     refine WC.seqk ?_
     refine WC.block ?_
     refine sq ?_
     refine mv ?_
     refine mv ?_
     cases hc72 : em with
     | false =>
      refine ps ?_
      refine ps ?_
      refine ps ?_
      refine pF ?_
      refine asg ?_
      refine WL.dn ?_
      refine cF ?_
      refine sq ?_
      refine mv ?_
      refine asg ?_
      refine WL.dn ?_
      refine cF ?_
      refine WC.sk ?_
      refine sq ?_
      refine WL.load_box rfl rfl rfl hR68 Ty.agg30 ?_
      have h75 := (hB69.row ((((hB17.row ((hR4.ext hE8).ext hE14) (by omega)).ext hE21).ext hE63).ext hE66) (by omega))
      refine WL.store_box rfl rfl rfl h75 Ty.agg30 rfl rfl (fun w76 hB74 hR73 => ?_)
      have hzhB74 := hB74.size
      refine WL.dn ?_
      refine WC.ret (fun a_ ha => ?_)
      have h77 := ((hn65.bu hB69).bu hB74)
      exact bodyPost_cell (l := (tcells (Nd.or (Nd.compactT (Nd.sortT ((Nd.altO ((Nd.or ts).subs.take k)) ++ [(Nd.ofS (Nd.altS ((Nd.or ts).subs.take k)))])))) (.slice a65 (Nd.or (Nd.compactT (Nd.sortT ((Nd.altO ((Nd.or ts).subs.take k)) ++ [(Nd.ofS (Nd.altS ((Nd.or ts).subs.take k)))])))).subs.length cap65))) rfl ha rfl Ty.agg30 hR73 ⟨_, rfl, (by have e9 : Nd.altR (Nd.or ts).subs = Nd.altR ((Nd.or ts).subs.take k) := (by rw [List.take_of_length_le (by omega)]); simp only [Nd.alt, hc19, hc23, hc36, hc49, hc72, cond_true, cond_false, Bool.not_true, Bool.not_false, Bool.or_true, Bool.true_or, Bool.or_false, Bool.false_or, Bool.and_true, Bool.true_and, Bool.and_false, Bool.false_and]; rw [e9]; simp only [Nd.altR, Nd.altM, ← hal, ← hEe, hc19, hc23, hc36, hc49, hc72, cond_true, cond_false, Bool.not_true, Bool.not_false, Bool.or_true, Bool.true_or, Bool.or_false, Bool.false_or, Bool.and_true, Bool.true_and, Bool.and_false, Bool.false_and]; exact (h77.dom (by intro k hk; (try dsimp only at hk); first | omega | exact hk.1.elim))), (hB74.onto (hB69.onto ((((hB17.onto ((hE5.trans hE8).trans hE14) (by omega)).trans hE21).trans hE63).trans hE66) (by omega)) (by omega))⟩
     | true =>
      refine WL.fieldAddr rfl rfl Ty.fld30_0 rfl ?_
      refine WL.load_fld rfl rfl Ty.flat5 rfl hR68 rfl ?_
      cases hc73 : (((Nd.or (Nd.compactT (Nd.sortT ((Nd.altO ((Nd.or ts).subs.take k)) ++ [(Nd.ofS (Nd.altS ((Nd.or ts).subs.take k)))])))).kind : Int) == 0) with
      | false =>
       refine WL.eql rfl rfl rfl rfl hc73 ?_
       have hp73 := beq_eq_false_iff_ne.1 hc73
       refine pT ?_
       refine asg ?_
       refine WL.dn ?_
       refine cF ?_
       refine sq ?_
       refine mv ?_
       refine asg ?_
       refine WL.dn ?_
       refine cT ?_
       refine WC.seqk ?_
       have h74 := ((hts62.ext hE66).bu hB69)
       have h75 := (hB69.row ((((hB17.row ((hR4.ext hE8).ext hE14) (by omega)).ext hE21).ext hE63).ext hE66) (by omega))
       refine WC.weaken (r' := [(2, pt b1 0), (3, pt b10 0), (4, pt b24 0), (24, .int .i64 ((Nd.or ts).subs.length)), (23, .slice a7 ((Nd.or ts).subs.length) cap7), (25, .int .i64 (k : Int)), (5, v58), (6, .bool true), (26, .bool false), (44, .agg #[.int .u64 (Nd.altS ((Nd.or ts).subs.take k)).a, .int .u64 (Nd.altS ((Nd.or ts).subs.take k)).b, .int .u64 (Nd.altS ((Nd.or ts).subs.take k)).c, .int .u64 (Nd.altS ((Nd.or ts).subs.take k)).d]), (45, .agg (tcells (Nd.ofS (Nd.altS ((Nd.or ts).subs.take k))) (.slice a37 (Nd.ofS (Nd.altS ((Nd.or ts).subs.take k))).subs.length cap37)).toArray), (9, pt b40 0), (46, pt b40 0), (47, .int .u8 ((Nd.ofS (Nd.altS ((Nd.or ts).subs.take k))).kind)), (48, .bool true), (49, v), (50, .agg (tcells (Nd.ofS (Nd.altS ((Nd.or ts).subs.take k))) (.slice a37 (Nd.ofS (Nd.altS ((Nd.or ts).subs.take k))).subs.length cap37)).toArray), (51, .slice (some ⟨b51, 0, none⟩) 1 1), (52, v58), (53, v58), (54, .tuple #[]), (55, v58), (56, .slice a62 ((Nd.compactT (Nd.sortT ((Nd.altO ((Nd.or ts).subs.take k)) ++ [(Nd.ofS (Nd.altS ((Nd.or ts).subs.take k)))]))).length) cap62), (57, .agg (tcells (Nd.or (Nd.compactT (Nd.sortT ((Nd.altO ((Nd.or ts).subs.take k)) ++ [(Nd.ofS (Nd.altS ((Nd.or ts).subs.take k)))])))) (.slice a65 (Nd.or (Nd.compactT (Nd.sortT ((Nd.altO ((Nd.or ts).subs.take k)) ++ [(Nd.ofS (Nd.altS ((Nd.or ts).subs.take k)))])))).subs.length cap65)).toArray), (59, .bool true), (60, .bool true), (61, pt b10 0), (62, .int .u8 ((Nd.or (Nd.compactT (Nd.sortT ((Nd.altO ((Nd.or ts).subs.take k)) ++ [(Nd.ofS (Nd.altS ((Nd.or ts).subs.take k)))])))).kind)), (63, .bool false), (64, .bool false), (58, .bool false), (67, .bool true), (66, .bool true)]) (s4 (s4 (s4 (s4 (s4 (s4 (s4 (s4 (sr rfl (subReg_nil _)))))))))) ?_
       refine WC.draw 2 [68, 69] [pc (.agg (tcells (Nd.or (Nd.compactT (Nd.sortT ((Nd.altO ((Nd.or ts).subs.take k)) ++ [(Nd.ofS (Nd.altS ((Nd.or ts).subs.take k)))])))) (.slice a65 (Nd.or (Nd.compactT (Nd.sortT ((Nd.altO ((Nd.or ts).subs.take k)) ++ [(Nd.ofS (Nd.altS ((Nd.or ts).subs.take k)))])))).subs.length cap65)).toArray), pc (.agg #[.int .i64 Nd.opt.1, .int .i64 Nd.opt.2])] (by kernel_rfl) (by kernel_rfl) ⟨KW_pc _, KW_pc _, trivial⟩ rfl rfl rfl (sc ?_ (sc ?_ (StepsOn.nil _))) ?_
       ·intro σ β w1 hE1 hbi hk
        refine ⟨[], (agree_nil _), ?_⟩
        refine WL.load_box rfl rfl rfl (hR68.ext hE1) Ty.agg30 ?_
        exact dq hbi rfl
       ·intro σ β w1 hE1 hbi hk
        refine ⟨[], (agree_nil _), ?_⟩
        refine WL.call rfl rfl rfl Ty.ent52 (opt_ok _) ?_
        rintro _ w97 ⟨rfl, hE96⟩
        refine ⟨_, rfl, ?_⟩
        exact dqE hbi hE96 rfl
       intro σ β w76 hE76 hbi76 hk
       have hz76 := hE76.size
       have hbi := hbi76
       refine WL.know [(68, .agg (tcells (Nd.or (Nd.compactT (Nd.sortT ((Nd.altO ((Nd.or ts).subs.take k)) ++ [(Nd.ofS (Nd.altS ((Nd.or ts).subs.take k)))])))) (.slice a65 (Nd.or (Nd.compactT (Nd.sortT ((Nd.altO ((Nd.or ts).subs.take k)) ++ [(Nd.ofS (Nd.altS ((Nd.or ts).subs.take k)))])))).subs.length cap65)).toArray), (69, .agg #[.int .i64 Nd.opt.1, .int .i64 Nd.opt.2])] (aj hk 0 (aj hk 1 (agree_nil _))) ?_
       have h79 := ((hn65.bu hB69).ext hE76)
       refine WL.call rfl rfl rfl Ty.ent42 (timesN_ok _ _ _ (Nd.or (Nd.compactT (Nd.sortT ((Nd.altO ((Nd.or ts).subs.take k)) ++ [(Nd.ofS (Nd.altS ((Nd.or ts).subs.take k)))])))) Nd.opt h79 (Nd.good_nice (Nd.or_good _) (by omega))) ?_
       rintro _ w82 ⟨l80, rfl, hr80, hE81⟩
       have hzhE81 := hE81.size
       refine ⟨_, rfl, ?_⟩
       have hn80 := hr80.lt
       obtain ⟨a80, cap80, rfl, hts80, hlen80⟩ := hn80.op2
       have h85 := ((h75.ext hE76).ext hE81)
       refine WL.store_box rfl rfl rfl h85 Ty.agg30 rfl rfl (fun w86 hB84 hR83 => ?_)
       have hzhB84 := hB84.size
       refine WL.dn ?_
       refine WC.ret (fun a_ ha => ?_)
       refine ret_block ?_
       refine ret_then ?_
       exact bodyPost_cell (l := (tcells (Nd.timesN (Nd.or (Nd.compactT (Nd.sortT ((Nd.altO ((Nd.or ts).subs.take k)) ++ [(Nd.ofS (Nd.altS ((Nd.or ts).subs.take k)))])))) Nd.opt) (.slice a80 (Nd.timesN (Nd.or (Nd.compactT (Nd.sortT ((Nd.altO ((Nd.or ts).subs.take k)) ++ [(Nd.ofS (Nd.altS ((Nd.or ts).subs.take k)))])))) Nd.opt).subs.length cap80))) rfl ha rfl Ty.agg30 hR83 ⟨_, rfl, (by have e9 : Nd.altR (Nd.or ts).subs = Nd.altR ((Nd.or ts).subs.take k) := (by rw [List.take_of_length_le (by omega)]); simp only [Nd.alt, hc19, hc23, hc36, hc49, hc72, hc73, cond_true, cond_false, Bool.not_true, Bool.not_false, Bool.or_true, Bool.true_or, Bool.or_false, Bool.false_or, Bool.and_true, Bool.true_and, Bool.and_false, Bool.false_and]; rw [e9]; simp only [Nd.altR, Nd.altM, ← hal, ← hEe, hc19, hc23, hc36, hc49, hc72, hc73, cond_true, cond_false, Bool.not_true, Bool.not_false, Bool.or_true, Bool.true_or, Bool.or_false, Bool.false_or, Bool.and_true, Bool.true_and, Bool.and_false, Bool.false_and]; exact ((hn80.bu hB84).dom (by intro k hk; (try dsimp only at hk); first | omega | exact hk.1.elim))), (hB84.onto (((hB69.onto ((((hB17.onto ((hE5.trans hE8).trans hE14) (by omega)).trans hE21).trans hE63).trans hE66) (by omega)).trans hE76).trans hE81) (by omega))⟩
      | true =>
       refine WL.eql rfl rfl rfl rfl hc73 ?_
       have hp73 := beq_iff_eq.1 hc73
       refine pT ?_
       refine asg ?_
       refine WL.dn ?_
       refine cT ?_
       refine sq ?_
       refine WL.build (l := (zc 1 0 0 (.slice none 0 0))) rfl rfl Ty.zero30 Ty.st30 ⟨⟨rfl, rfl⟩, (by kernel_rfl)⟩ ?_
       have hn74 : NodeL _ w71 (zc 1 0 0 (.slice none 0 0)) (Nd.mk 1 Nd.zero 0 0 ([])) := NodeL.shut (k := 1) (s := Nd.zero) (mn := 0) (mx := 0) (sl := .slice none 0 0) (ts := []) (NodesV.nil (fun _ => False) _ none 0)
       have hn74 := hn74.lt
       have h77 := (hB69.row ((((hB17.row ((hR4.ext hE8).ext hE14) (by omega)).ext hE21).ext hE63).ext hE66) (by omega))
       refine WL.store_box rfl rfl rfl h77 Ty.agg30 rfl rfl (fun w78 hB76 hR75 => ?_)
       have hzhB76 := hB76.size
       refine WL.dn ?_
       refine WC.ret (fun a_ ha => ?_)
       refine ret_block ?_
       refine ret_then ?_
       exact bodyPost_cell (l := (zc 1 0 0 (.slice none 0 0))) rfl ha rfl Ty.agg30 hR75 ⟨_, rfl, (by have e9 : Nd.altR (Nd.or ts).subs = Nd.altR ((Nd.or ts).subs.take k) := (by rw [List.take_of_length_le (by omega)]); simp only [Nd.alt, hc19, hc23, hc36, hc49, hc72, hc73, cond_true, cond_false, Bool.not_true, Bool.not_false, Bool.or_true, Bool.true_or, Bool.or_false, Bool.false_or, Bool.and_true, Bool.true_and, Bool.and_false, Bool.false_and]; rw [e9]; simp only [Nd.altR, Nd.altM, ← hal, ← hEe, hc19, hc23, hc36, hc49, hc72, hc73, cond_true, cond_false, Bool.not_true, Bool.not_false, Bool.or_true, Bool.true_or, Bool.or_false, Bool.false_or, Bool.and_true, Bool.true_and, Bool.and_false, Bool.false_and]; exact ((hn74.bu hB76).dom (by intro k hk; (try dsimp only at hk); first | omega | exact hk.1.elim))), (hB76.onto (hB69.onto ((((hB17.onto ((hE5.trans hE8).trans hE14) (by omega)).trans hE21).trans hE63).trans hE66) (by omega)) (by omega))⟩
   | true =>
    refine WL.lss rfl rfl rfl rfl hc36 ?_
    have hp36 := of_decide_eq_true hc36
    refine WL.dn ?_
    refine WC.seqk ?_
    refine cT ?_
    refine WC.sk ?_
    refine WC.seqk ?_
    refine WC.block ?_
    refine sq ?_
    obtain ⟨t37, ht37⟩ : ∃ t, (Nd.or ts).subs[k]? = some t := ⟨_, List.getElem?_eq_getElem (by omega)⟩
    obtain ⟨eb37, eo37, el37, hea37, hD37, her37, hn37⟩ := hts.at ht37
    obtain ⟨a37, cap37, rfl, hts37, hlen37⟩ := hn37.op2
    subst hea37
    refine WL.indexAddr (i := k) rfl rfl Ty.slice24 rfl rfl rfl (by omega) ?_
    refine WL.load_agg (l := tcells t37 (.slice a37 t37.subs.length cap37)) rfl rfl Ty.agg30 rfl her37 ?_
    refine WL.alloc rfl rfl Ty.zero30 rfl (fun b38 w43 hb39 hE42 hs40 hR41 => ?_)
    refine WL.store_box rfl rfl rfl hR41 Ty.agg30 rfl rfl (fun w46 hB45 hR44 => ?_)
    have hzhB45 := hB45.size
    refine WL.dn ?_
    refine sq ?_
    refine WL.fieldAddr rfl rfl Ty.fld30_0 rfl ?_
    refine WL.load_fld rfl rfl Ty.flat5 rfl hR44 rfl ?_
    refine WL.dn ?_
    refine WC.block ?_
    refine sq ?_
    cases hc47 : ((t37.kind : Int) == 2) with
    | false =>
     refine WL.eql rfl rfl rfl rfl hc47 ?_
     have hp47 := beq_eq_false_iff_ne.1 hc47
     refine asg ?_
     refine WL.dn ?_
     refine cF ?_
     refine sq ?_
     cases hc48 : ((t37.kind : Int) == 1) with
     | false =>
      refine WL.eql rfl rfl rfl rfl hc48 ?_
      have hp48 := beq_eq_false_iff_ne.1 hc48
      refine asg ?_
      refine WL.dn ?_
      refine cF ?_
      refine WC.region ?_
      refine mv ?_
      refine WL.load_box rfl rfl rfl hR44 Ty.agg30 ?_
      have h49 := ((hn37.ext hE42).bu hB45)
      refine WL.buildSlice (vs := [.agg (tcells t37 (.slice a37 t37.subs.length cap37)).toArray]) (cells := (tcells t37 (.slice a37 t37.subs.length cap37))) rfl rfl Ty.slice24 Ty.zero30 rfl rfl rfl rfl rfl rfl (fun b50 w55 hb51 hE54 hs52 hR53 => ?_)
      have hts50 := (NodesV.lit (n := 1) (ts := [t37]) hR53 (RowsL.cons (h49.ext hE54) (RowsL.nil' _)) rfl rfl (by decide)).lt
      have h56 := (((hO.ext hE42).but hB45 (fun h1 => by have := hD _ h1; first | omega | (dsimp only at h1; omega)) (fun hk => by have := (hO.ext hE42).own _ hk; have := hol _ hk; omega)).ext hE54)
      have hol57 := h56.own
      refine WL.append1 rfl rfl Ty.slice24 Ty.zero30 rfl small_node rfl rfl h56 hR53 (h49.ext hE54) (by intro k h1 hh; have := hol57 _ hh; have := hol _ hh; first | omega | ((try dsimp only at h1); (repeat' first | (guard_hyp h1 : _ ∨ _; refine Or.elim h1 (fun h1 => ?_) (fun h1 => ?_)) | (guard_hyp h1 : _ ∧ _; have hx := h1.2; replace h1 := h1.1)) <;> first | contradiction | omega)) (by have h0 := Nd.altO_len ((Nd.or ts).subs.take k); have h2 := Nd.good_size (Nd.or_good ts); have h3 := Nd.size_subs (Nd.or ts); have h4 := Nd.length_le_sizeL (Nd.or ts).subs; have h5 := List.length_take_le k (Nd.or ts).subs; omega) (by omega) ?_
      intro v57 w57 hG57 hO57 hv57
      have hE57 := grown_below hG57 ((hB45.onto ((((hB17.onto ((hE5.trans hE8).trans hE14) (by omega)).trans hE21).trans hE33).trans hE42) (by omega)).trans hE54) (by intro k hk; have := hol57 _ hk; omega)
      have hz57 := hE57.size
      have hzz57 := hG57.size
      refine asg ?_
      refine WL.dn ?_
      refine WC.region ?_
      refine WL.add (v := (k : Int) + 1) rfl rfl rfl rfl (IntWalk.i64_in _ (by omega)) ?_
      refine mv ?_
      refine WL.nil (fun a_ ha => ?_)
      have h58 := (grown_row hG57 ((hB45.row (hRs.ext hE42) (by omega)).ext hE54) (fun hh => by have := hol57 _ hh; have := hol _ hh; omega))
      have hS1 := Nd.altS_succ ht37
      have hO1 := Nd.altO_succ ht37
      have hE1 := Nd.altE_succ ht37
      simp only [hc19, hc23, hc36, hc47, hc48, cond_true, cond_false, Bool.not_true, Bool.not_false, Bool.or_true, Bool.true_or, Bool.or_false, Bool.false_or, Bool.and_true, Bool.true_and, Bool.and_false, Bool.false_and] at hS1 hO1 hE1
      have h59 := ((((hts.ext hE42).bu hB45).ext hE54).grown hG57 (by intro k h1 hlt hh; have := hol57 _ hh; have := hol _ hh; first | omega | ((try dsimp only at h1); (repeat' first | (guard_hyp h1 : _ ∨ _; refine Or.elim h1 (fun h1 => ?_) (fun h1 => ?_)) | (guard_hyp h1 : _ ∧ _; have hx := h1.2; replace h1 := h1.1)) <;> first | contradiction | omega)))
      exact ⟨(k + 1, v57, em), _, ha.weaken (s4 (s4 (subReg_nil _))), ⟨rfl, (grown_below hG57 ((hB45.onto (hE33.trans hE42) (by omega)).trans hE54) (by intro k hh; have := hol57 _ hh; have := hol _ hh; omega)), ⟨by first | omega | (dsimp only; omega), (by dsimp only; rw [hS1]; exact h58), h59.dom (fun _ h => h.1), (by dsimp only; rw [hO1]; (try simp only [List.append_nil]); exact hO57.dom (by first | exact fun _ h _ _ => h | (rintro k h _ _; rcases h with h | h; exact h; first | exact h | exact h.1 | exact h.1.1))), by omega, (by dsimp only; first | exact hE1.symm | exact hEe.trans hE1.symm)⟩⟩, by first | omega | (dsimp only; omega)⟩
     | true =>
      refine WL.eql rfl rfl rfl rfl hc48 ?_
      have hp48 := beq_iff_eq.1 hc48
      refine asg ?_
      refine WL.dn ?_
      refine cT ?_
      refine WC.region ?_
      refine asg ?_
      refine WL.dn ?_
      refine WC.region ?_
      refine WL.add (v := (k : Int) + 1) rfl rfl rfl rfl (IntWalk.i64_in _ (by omega)) ?_
      refine mv ?_
      refine WL.nil (fun a_ ha => ?_)
      have h49 := ((hO.ext hE42).but hB45 (fun h1 => by have := hD _ h1; first | omega | (dsimp only at h1; omega)) (fun hk => by have := (hO.ext hE42).own _ hk; have := hol _ hk; omega))
      have h50 := (hB45.row (hRs.ext hE42) (by omega))
      have hS1 := Nd.altS_succ ht37
      have hO1 := Nd.altO_succ ht37
      have hE1 := Nd.altE_succ ht37
      simp only [hc19, hc23, hc36, hc47, hc48, cond_true, cond_false, Bool.not_true, Bool.not_false, Bool.or_true, Bool.true_or, Bool.or_false, Bool.false_or, Bool.and_true, Bool.true_and, Bool.and_false, Bool.false_and] at hS1 hO1 hE1
      have h51 := ((hts.ext hE42).bu hB45)
      exact ⟨(k + 1, v, true), _, ha.weaken (s4 (s4 (subReg_nil _))), ⟨rfl, (hB45.onto (hE33.trans hE42) (by omega)), ⟨by first | omega | (dsimp only; omega), (by dsimp only; rw [hS1]; exact h50), h51.dom (fun _ h => h.1), (by dsimp only; rw [hO1]; (try simp only [List.append_nil]); exact h49.dom (by first | exact fun _ h _ _ => h | (rintro k h _ _; rcases h with h | h; exact h; first | exact h | exact h.1 | exact h.1.1))), by omega, (by dsimp only; first | exact hE1.symm | exact hEe.trans hE1.symm)⟩⟩, by first | omega | (dsimp only; omega)⟩
    | true =>
     refine WL.eql rfl rfl rfl rfl hc47 ?_
     have hp47 := beq_iff_eq.1 hc47
     refine asg ?_
     refine WL.dn ?_
     refine cT ?_
     refine WC.region ?_
     have h48 := (hB45.row (hRs.ext hE42) (by omega))
     refine WL.load_box rfl rfl rfl h48 Ty.agg28 ?_
     refine WL.fieldAddr rfl rfl Ty.fld30_1 rfl ?_
     refine WL.load_part 4 rfl rfl rfl hR44 rfl Ty.agg28 ?_
     refine WL.call rfl rfl rfl Ty.ent59 (setOr_ok _ (Nd.altS ((Nd.or ts).subs.take k)) t37.set) ?_
     rintro _ w50 ⟨rfl, hE49⟩
     have hzhE49 := hE49.size
     refine ⟨_, rfl, ?_⟩
     refine WL.store_box rfl rfl rfl (h48.ext hE49) Ty.agg28 rfl rfl (fun w53 hB52 hR51 => ?_)
     have hzhB52 := hB52.size
     refine WL.dn ?_
     refine WC.region ?_
     refine WL.add (v := (k : Int) + 1) rfl rfl rfl rfl (IntWalk.i64_in _ (by omega)) ?_
     refine mv ?_
     refine WL.nil (fun a_ ha => ?_)
     have h54 := ((((hO.ext hE42).but hB45 (fun h1 => by have := hD _ h1; first | omega | (dsimp only at h1; omega)) (fun hk => by have := (hO.ext hE42).own _ hk; have := hol _ hk; omega)).ext hE49).but hB52 (fun h1 => by have := hD _ h1; first | omega | (dsimp only at h1; omega)) (fun hk => by have := (((hO.ext hE42).but hB45 (fun h1 => by have := hD _ h1; first | omega | (dsimp only at h1; omega)) (fun hk => by have := (hO.ext hE42).own _ hk; have := hol _ hk; omega)).ext hE49).own _ hk; have := hol _ hk; omega))
     have hk1 : (t37.kind == 1) = false := beq_eq_false_iff_ne.2 (by omega)
     have hS1 := Nd.altS_succ ht37
     have hO1 := Nd.altO_succ ht37
     have hE1 := Nd.altE_succ ht37
     simp only [hc19, hc23, hc36, hc47, hk1, cond_true, cond_false, Bool.not_true, Bool.not_false, Bool.or_true, Bool.true_or, Bool.or_false, Bool.false_or, Bool.and_true, Bool.true_and, Bool.and_false, Bool.false_and] at hS1 hO1 hE1
     have h55 := ((((hts.ext hE42).bu hB45).ext hE49).bu hB52)
     exact ⟨(k + 1, v, em), _, ha.weaken (s4 (s4 (subReg_nil _))), ⟨rfl, (hB52.onto ((hB45.onto (hE33.trans hE42) (by omega)).trans hE49) (by omega)), ⟨by first | omega | (dsimp only; omega), (by dsimp only; rw [hS1]; exact hR51), h55.dom (fun _ h => h.1), (by dsimp only; rw [hO1]; (try simp only [List.append_nil]); exact h54.dom (by first | exact fun _ h _ _ => h | (rintro k h _ _; rcases h with h | h; exact h; first | exact h | exact h.1 | exact h.1.1))), by omega, (by dsimp only; first | exact hE1.symm | exact hEe.trans hE1.symm)⟩⟩, by first | omega | (dsimp only; omega)⟩
 | true =>
  refine WL.neq rfl rfl rfl rfl hc19 ?_
  have hp19 := bne_iff_ne.1 hc19
  refine WL.dn ?_
  refine cT ?_
  refine sq ?_
  refine WL.load_box rfl rfl rfl hR16 Ty.agg30 ?_
  have h22 := (hB17.row ((hR4.ext hE8).ext hE14) (by omega))
  refine WL.store_box rfl rfl rfl h22 Ty.agg30 rfl rfl (fun w23 hB21 hR20 => ?_)
  have hzhB21 := hB21.size
  refine WL.dn ?_
  refine WC.ret (fun a_ ha => ?_)
  refine ret_then ?_
  have h24 := (((hn7.ext hE14).bu hB17).bu hB21)
  exact bodyPost_cell (l := (tcells (Nd.or ts) (.slice a7 (Nd.or ts).subs.length cap7))) rfl ha rfl Ty.agg30 hR20 ⟨_, rfl, (by simp only [Nd.alt, hc19, cond_true, cond_false, Bool.not_true, Bool.not_false, Bool.or_true, Bool.true_or, Bool.or_false, Bool.false_or, Bool.and_true, Bool.true_and, Bool.and_false, Bool.false_and]; exact (h24.dom (by intro k hk; (try dsimp only at hk); first | omega | exact hk.1.elim))), (hB21.onto (hB17.onto ((hE5.trans hE8).trans hE14) (by omega)) (by omega))⟩
end Go.Proofs.Yteenegaadlhjdaa
namespace Go.Proofs.Yteenegaadlhjdaa
namespace Nd
def normK (n : Nd) (l : List Nd) : Nd :=
  bif n.kind == 6 then capture (l[0]?.getD none) else bif n.kind == 5 then timesN (l[0]?.getD none) (bof n) else bif n.kind == 3 then cat l else bif n.kind == 4 then alt l else n
mutual
def norm : Nd → Nd
  | mk k s mn mx ts => normK (mk k s mn mx ts) (normL ts)
def normL : List Nd → List Nd
  | [] => []
  | t :: ts => t.norm :: normL ts
end
theorem normL_eq (ts : List Nd) : normL ts = ts.map norm := by
  induction ts with
  | nil => rfl
  | cons t ts ih => simp [normL, ih]
theorem norm_eq (t : Nd) : t.norm = normK t (t.subs.map norm) := by
  cases t
  rw [norm, normL_eq]; rfl
def NormOk : Prop := ∀ t : Nd, Fine t → t.sok = true → Fine (norm t) ∧ (norm t).sok = true ∧ (norm t).size ≤ t.size
def normT (l : List Nd) (k : Nat) : List Nd := (l.take k).map norm ++ List.replicate (l.length - k) none
theorem normT_zero (l : List Nd) : normT l 0 = List.replicate l.length none := by simp [normT]
theorem normT_len (l : List Nd) {k : Nat} (h : k ≤ l.length) : (normT l k).length = l.length := by simp [normT]; omega
theorem normT_all (l : List Nd) {k : Nat} (h : k = l.length) : normT l k = l.map norm := by subst h; simp [normT]
theorem normT_succ {l : List Nd} {k : Nat} {t : Nd} (h : l[k]? = some t) : normT l (k + 1) = (normT l k).set k (norm t) := by
  have hk := (List.getElem?_eq_some_iff.1 h).1
  obtain ⟨m, hm⟩ : ∃ m, l.length - k = m + 1 := ⟨l.length - k - 1, by omega⟩
  have hl : ((l.take k).map norm).length = k := by simp; omega
  unfold normT
  rw [hm, show l.length - (k + 1) = m by omega, List.set_append_right _ _ (by rw [hl]; exact Nat.le_refl _), hl, Nat.sub_self, List.replicate_succ, List.set_cons_zero, List.take_add_one, h]
  simp
theorem right_six {t : Nd} (h : t.right = true) (hk : t.kind = 6) : t.subs.length = 1 := by
  obtain ⟨k, s, mn, mx, ts⟩ := t
  simp only [kind] at hk
  subst hk
  simp only [right, kind, set, least, most, subs] at h ⊢
  simp at h
  have := h.2; omega
def copyT (t : Nd) : Nd := bif t.light then t else none
theorem copy_fine {t : Nd} (h : Fine t) : copyT t = t := by unfold copyT; rw [h.light]; rfl
theorem Fine.sub {t u : Nd} (h : Fine t) (hu : u ∈ t.subs) : Fine u := ⟨nice_subs h.1 hu, by have := size_le_sizeL hu; have := size_subs t; have := h.2; omega⟩
end Nd
end Go.Proofs.Yteenegaadlhjdaa
namespace Go.Proofs.Yteenegaadlhjdaa
open Go.RowKit Go.Lib Go.Sort
theorem made_flat {z : Array Value} (hz : z.size = 8) (n : Nat) : (madeCells z (n * 8)).toList = (List.replicate n z.toList).flatten := by
  have h := flatK_toList (fun _ : Nat => z.toList) (fun _ => by simpa using hz) (List.replicate n 0)
  rw [List.map_replicate] at h
  rw [← h]
  congr 1
  apply Array.ext_getElem?
  intro i
  simp only [madeCells, flatK, List.size_toArray, List.length_replicate, Array.getElem?_map, Array.getElem?_range]
  split
  · simp only [Option.map_some, hz]
    congr 1
    have h8 : i % 8 < z.size := by omega
    rw [getElem!_pos z _ h8]
    rw [getElem!_pos z.toList _ (by simpa using h8)]
    simp
  · rfl
section
variable {P : Program} {ro : Option Nat} {all : Array Oper} {Q : Exit → Act → World → Prop} {N : Nat} {ds : List Deferred} {r : Reg} {w : World} {rest : List Oper}
  {ty : TypeId} {pos : String} {aft : Array Edge} {g : Option (Nat × Bool)}
theorem WL.makeZ {d : Nat} {t e : TypeId} {x y : Operand} {z : Value} {n m : Nat} {k k' : IntKind} (hw : want all r g = some true) (hd : Nat.blt d N = true) (ht : sliceB P t e 8 = true) (hz : zeroB P e z) (hzc : z.cells.toList = tcells Nd.none (.slice none 0 0)) (hby : smallB P e = true)
    (hx : ev r x = some (.int k m)) (hy : ev r y = some (.int k' m)) (hmn : m = n) (hn : n ≤ 1000000)
    (next : ∀ w', Ext w w' → OwnV e w.heap.size (fun _ => False) w' (.slice (some ⟨w.heap.size, 0, none⟩) n n) (List.replicate n Nd.none) → WL ro P all Q N ds rest ((d, .slice (some ⟨w.heap.size, 0, none⟩) n n) :: r) w') :
    WL ro P all Q N ds (⟨some d, .makeSlice t x y, ty, pos, aft, g⟩ :: rest) r w := by
  subst hmn
  obtain ⟨hu, q, hq, hs⟩ := sliceB_u ht
  have hbt : q.bytes ≤ 128 := by unfold smallB at hby; rw [hq] at hby; simp at hby; exact hby.1
  have hzz : q.zero = some z := by unfold zeroB at hz; rw [hq] at hz; exact hz
  have hz8 : z.cells.size = 8 := by rw [← Array.length_toList, hzc]; rfl
  obtain ⟨w', h1, h2, h3⟩ := run_makeSlice_full (P := P) (w := w) w.heap.size t e q z 8 hu hq hzz hs k k' m (by omega) (by have := Nat.mul_le_mul hbt hn; omega) (by simp only [maxLen]; omega) (Nat.le_refl _)
  have hE : Ext w w' := grown_below ⟨h3, run_drawn _ h1⟩ (Ext.refl _) (fun k hk => by cases hk)
  refine WL.val hw hd (by intro c h; cases h) (fun a ha => by simp [execOp, ha.ev hx, ha.ev hy, h1]) (next w' hE ?_)
  have hl : (List.replicate m Nd.none).length = m := by simp
  refine ⟨List.replicate m z.cells.toList, ?_, ⟨by simp, fun i l t h1 h2 => ?_⟩, by rw [hl]; omega⟩
  · rw [hl, ← made_flat hz8]; exact h2
  · have hi : i < m := by have := (List.getElem?_eq_some_iff.1 h1).1; simpa using this
    rw [List.getElem?_replicate, if_pos hi] at h1 h2
    cases h1; cases h2
    rw [hzc]
    exact (NodeL.mk' (t := Nd.none) (NodesV.nil (fun _ => False) _ none 0)).dom (fun k hk => hk.elim)
end
end Go.Proofs.Yteenegaadlhjdaa
namespace Go.Proofs.Yteenegaadlhjdaa
open Go.Proofs Go.RowKit
set_option maxRecDepth 20000 in
set_option maxHeartbeats 4000000 in
theorem norm_ok (hP : Nd.NormOk) (T : Nd) : ∀ (D : Nat → Prop) (w : World) (l : List Value) (hT : NodeL D w l T) (hfi : Nd.Fine T) (hsT : T.sok = true),
  Calls Try.prog 28 #[.agg l.toArray] w fun e w' => ∃ l', e = .returned (.agg l'.toArray) ∧ NodeL (fun k => D k ∨ w.heap.size ≤ k) w' l' (Nd.norm T) ∧ Ext w w' := by
 induction T using Nd.ind with
 | h kd st mn mx tsx ih =>
 intro D w l hT hfi hsT
 replace ih : ∀ t, t ∈ (Nd.mk kd st mn mx tsx).subs → _ := ih
 generalize Nd.mk kd st mn mx tsx = T at *
 clear kd st mn mx tsx
 have hT := hT.lt
 obtain ⟨a, cap, rfl, hts, hlen⟩ := hT.op2
 have hlen2 : T.subs.length ≤ 1000 := by have := hfi.2; have := Nd.size_subs T; have := Nd.length_le_sizeL T.subs; omega
 refine Calls.enter (args := [.agg (tcells T (.slice a T.subs.length cap)).toArray]) Try.func28 rfl rfl rfl rfl ?_
 refine sq ?_
 refine WL.box_agg rfl rfl rfl (fun b1 w6 hb2 hE5 hs3 hR4 => ?_)
 refine WL.alloc rfl rfl Ty.zero30 rfl (fun b7 w12 hb8 hE11 hs9 hR10 => ?_)
 refine WL.dn ?_
 refine sq ?_
 refine WL.fieldAddr rfl rfl Ty.fld30_4 rfl ?_
 refine WL.load_fld rfl rfl Ty.flat24 rfl (hR4.ext hE11) rfl ?_
 refine WL.len rfl rfl Try.underlying24 rfl ?_
 refine WL.makeZ (n := (T.subs.map Nd.norm).length) rfl rfl Ty.slice24 Ty.zero30 rfl small_node rfl rfl (by simp) (by simp; omega) ?_
 intro w13 hE13 hO13
 have hz13 := hE13.size
 have hOz : w12.heap.size ≤ w12.heap.size ∧ w12.heap.size < w13.heap.size := hO13.own _ rfl
 rw [show List.replicate (T.subs.map Nd.norm).length Nd.none = Nd.normT T.subs 0 from by rw [List.length_map]; exact (Nd.normT_zero _).symm] at hO13
 have hln : (T.subs.map Nd.norm).length = T.subs.length := by simp
 refine asg ?_
 refine WL.dn ?_
 refine WC.seqk ?_
 refine sq ?_
 refine WL.fieldAddr rfl rfl Ty.fld30_4 rfl ?_
 have h15 := ((hR4.ext hE11).ext hE13)
 refine WL.load_fld rfl rfl Ty.flat24 rfl h15 rfl ?_
 refine WL.len rfl rfl Try.underlying24 rfl ?_
 refine mv ?_
 refine WL.dn ?_
 refine WC.block ?_
 have h16 := (((hts.ext hE5).ext hE11).ext hE13)
 have h17 := (((hT.ext hE5).ext hE11).ext hE13)
 refine WC.weaken (r' := [(1, pt b1 0), (2, pt b7 0), (3, .slice (some ⟨w12.heap.size, 0, none⟩) ((T.subs.map Nd.norm).length) ((T.subs.map Nd.norm).length)), (11, .slice a T.subs.length cap), (12, .int .i64 T.subs.length), (13, .int .i64 0)]) (s4 (sr rfl (sr rfl (subReg_nil _)))) ?_
 refine WC.loop (σ := Nat) (fun k r_ w_ => r_ = [(1, pt b1 0), (2, pt b7 0), (3, .slice (some ⟨w12.heap.size, 0, none⟩) ((T.subs.map Nd.norm).length) ((T.subs.map Nd.norm).length)), (11, .slice a T.subs.length cap), (12, .int .i64 T.subs.length), (13, .int .i64 (k : Int))] ∧ Ext w12 w_ ∧ (k ≤ T.subs.length ∧ OwnV 30 w12.heap.size (fun k => (D k ∧ k < w.heap.size) ∨ w12.heap.size < k) w_ (.slice (some ⟨w12.heap.size, 0, none⟩) ((T.subs.map Nd.norm).length) ((T.subs.map Nd.norm).length)) (Nd.normT T.subs k))) (fun k => T.subs.length - k) 0 ⟨rfl, hE13, ⟨Nat.zero_le _, hO13.dom (fun _ h _ _ => h.elim)⟩⟩ ?_
 rintro k r_ w20 ⟨rfl, hE18, hI19⟩
 have hzhE18 := hE18.size
 obtain ⟨hk, hO⟩ := hI19
 have hnl := Nd.normT_len T.subs hk
 have hO := hO.dom (D' := fun k => ((D k ∧ k < w.heap.size) ∨ w12.heap.size < k) ∧ k < w20.heap.size) (fun k h1 h2 _ => ⟨h1, h2⟩)
 have hM := hO.mix
 have hob : ∀ k, (Value.slice (some ⟨w12.heap.size, 0, none⟩) ((T.subs.map Nd.norm).length) ((T.subs.map Nd.norm).length)).ownBlock = some k → k = w12.heap.size := fun k h => (Option.some.inj h).symm
 have hol : w12.heap.size ≤ w12.heap.size ∧ w12.heap.size < w20.heap.size := hO.own _ rfl
 refine sq ?_
 cases hc21 : decide (((k : Int) : Int) < T.subs.length) with
 | false =>
  refine WL.lss rfl rfl rfl rfl hc21 ?_
  have hp21 := of_decide_eq_false hc21
  refine WL.dn ?_
  refine WC.seqk ?_
  refine cF ?_
  refine WC.exit (fun a_ ha => ?_)
  refine exit_then ?_
  refine exit_then ?_
  refine exit_here ?_
  refine WC.at ?_ ha
  refine WC.seqk ?_
  refine sq ?_
  refine WL.fieldAddr rfl rfl Ty.fld30_0 rfl ?_
  have h22 := ((hR4.ext hE11).ext hE18)
  refine WL.load_fld rfl rfl Ty.flat5 rfl h22 rfl ?_
  refine WL.dn ?_
  refine WC.block ?_
  refine sq ?_
  cases hc23 : ((T.kind : Int) == 6) with
  | false =>
   refine WL.eql rfl rfl rfl rfl hc23 ?_
   have hp23 := beq_eq_false_iff_ne.1 hc23
   refine asg ?_
   refine WL.dn ?_
   refine cF ?_
   refine sq ?_
   cases hc24 : ((T.kind : Int) == 5) with
   | false =>
    refine WL.eql rfl rfl rfl rfl hc24 ?_
    have hp24 := beq_eq_false_iff_ne.1 hc24
    refine asg ?_
    refine WL.dn ?_
    refine cF ?_
    refine sq ?_
    cases hc25 : ((T.kind : Int) == 3) with
    | false =>
     refine WL.eql rfl rfl rfl rfl hc25 ?_
     have hp25 := beq_eq_false_iff_ne.1 hc25
     refine asg ?_
     refine WL.dn ?_
     refine cF ?_
     refine sq ?_
     cases hc26 : ((T.kind : Int) == 4) with
     | false =>
      refine WL.eql rfl rfl rfl rfl hc26 ?_
      have hp26 := beq_eq_false_iff_ne.1 hc26
      refine asg ?_
      refine WL.dn ?_
      refine cF ?_
      refine WC.sk ?_
      refine sq ?_
      refine WL.load_box rfl rfl rfl h22 Ty.agg30 ?_
      refine WL.store_box rfl rfl rfl (hR10.ext hE18) Ty.agg30 rfl rfl (fun w29 hB28 hR27 => ?_)
      have hzhB28 := hB28.size
      refine WL.dn ?_
      refine WC.ret (fun a_ ha => ?_)
      have h30 := ((((hT.ext hE5).ext hE11).ext hE18).bu hB28)
      exact bodyPost_cell (l := (tcells T (.slice a T.subs.length cap))) rfl ha rfl Ty.agg30 hR27 ⟨_, rfl, (by rw [show Nd.norm T = T from by rw [Nd.norm_eq]; simp only [Nd.normK, hc21, hc23, hc24, hc25, hc26, cond_true, cond_false, Bool.not_true, Bool.not_false, Bool.or_true, Bool.true_or, Bool.or_false, Bool.false_or, Bool.and_true, Bool.true_and, Bool.and_false, Bool.false_and]]; exact h30.dom (by intro k h1; (try dsimp only at h1); (repeat' first | (guard_hyp h1 : _ ∨ _; refine Or.elim h1 (fun h1 => ?_) (fun h1 => ?_)) | (guard_hyp h1 : _ ∧ _; have hx := h1.2; replace h1 := h1.1)) <;> first | contradiction | exact .inl h1 | exact .inl hx | exact .inr (by omega))), (hB28.onto ((hE5.trans hE11).trans hE18) (by omega))⟩
     | true =>
      refine WL.eql rfl rfl rfl rfl hc26 ?_
      have hp26 := beq_iff_eq.1 hc26
      refine asg ?_
      refine WL.dn ?_
      refine cT ?_
      refine sq ?_
      refine mv ?_
      have hkn : k = T.subs.length := by omega
      have hnv := hO.nodes.lt
      rw [Nd.normT_all _ hkn] at hnv
      refine WL.call rfl rfl rfl Ty.ent45 (alt_ok _ _ _ _ (T.subs.map Nd.norm) hnv (by simp; omega) (fun t ht => by obtain ⟨u, hu, rfl⟩ := List.mem_map.1 ht; exact (hP u (hfi.sub hu) (Nd.sok_subs hsT hu)).2.1)) ?_
      rintro _ w30 ⟨l28, rfl, hr28, hE29⟩
      have hzhE29 := hE29.size
      refine ⟨_, rfl, ?_⟩
      have hn28 := hr28.lt
      obtain ⟨a28, cap28, rfl, hts28, hlen28⟩ := hn28.op2
      have h33 := ((hR10.ext hE18).ext hE29)
      refine WL.store_box rfl rfl rfl h33 Ty.agg30 rfl rfl (fun w34 hB32 hR31 => ?_)
      have hzhB32 := hB32.size
      refine WL.dn ?_
      refine WC.ret (fun a_ ha => ?_)
      refine ret_block ?_
      refine ret_then ?_
      exact bodyPost_cell (l := (tcells (Nd.alt (T.subs.map Nd.norm)) (.slice a28 (Nd.alt (T.subs.map Nd.norm)).subs.length cap28))) rfl ha rfl Ty.agg30 hR31 ⟨_, rfl, (by rw [show Nd.norm T = (Nd.alt (T.subs.map Nd.norm)) from by rw [Nd.norm_eq]; simp only [Nd.normK, hc21, hc23, hc24, hc25, hc26, cond_true, cond_false, Bool.not_true, Bool.not_false, Bool.or_true, Bool.true_or, Bool.or_false, Bool.false_or, Bool.and_true, Bool.true_and, Bool.and_false, Bool.false_and]]; exact (hn28.bu hB32).dom (by intro k h1; (try dsimp only at h1); (repeat' first | (guard_hyp h1 : _ ∨ _; refine Or.elim h1 (fun h1 => ?_) (fun h1 => ?_)) | (guard_hyp h1 : _ ∧ _; have hx := h1.2; replace h1 := h1.1)) <;> first | contradiction | exact .inl h1 | exact .inl hx | exact .inr (by omega))), (hB32.onto (((hE5.trans hE11).trans hE18).trans hE29) (by omega))⟩
    | true =>
     refine WL.eql rfl rfl rfl rfl hc25 ?_
     have hp25 := beq_iff_eq.1 hc25
     refine asg ?_
     refine WL.dn ?_
     refine cT ?_
     refine sq ?_
     refine mv ?_
     have hkn : k = T.subs.length := by omega
     have hnv := hO.nodes.lt
     rw [Nd.normT_all _ hkn] at hnv
     refine WL.call rfl rfl rfl Ty.ent44 (cat_ok _ _ _ _ (T.subs.map Nd.norm) hnv (by simp; omega)) ?_
     rintro _ w29 ⟨l27, rfl, hr27, hE28⟩
     have hzhE28 := hE28.size
     refine ⟨_, rfl, ?_⟩
     have hn27 := hr27.lt
     obtain ⟨a27, cap27, rfl, hts27, hlen27⟩ := hn27.op2
     have h32 := ((hR10.ext hE18).ext hE28)
     refine WL.store_box rfl rfl rfl h32 Ty.agg30 rfl rfl (fun w33 hB31 hR30 => ?_)
     have hzhB31 := hB31.size
     refine WL.dn ?_
     refine WC.ret (fun a_ ha => ?_)
     refine ret_block ?_
     refine ret_then ?_
     exact bodyPost_cell (l := (tcells (Nd.cat (T.subs.map Nd.norm)) (.slice a27 (Nd.cat (T.subs.map Nd.norm)).subs.length cap27))) rfl ha rfl Ty.agg30 hR30 ⟨_, rfl, (by rw [show Nd.norm T = (Nd.cat (T.subs.map Nd.norm)) from by rw [Nd.norm_eq]; simp only [Nd.normK, hc21, hc23, hc24, hc25, cond_true, cond_false, Bool.not_true, Bool.not_false, Bool.or_true, Bool.true_or, Bool.or_false, Bool.false_or, Bool.and_true, Bool.true_and, Bool.and_false, Bool.false_and]]; exact (hn27.bu hB31).dom (by intro k h1; (try dsimp only at h1); (repeat' first | (guard_hyp h1 : _ ∨ _; refine Or.elim h1 (fun h1 => ?_) (fun h1 => ?_)) | (guard_hyp h1 : _ ∧ _; have hx := h1.2; replace h1 := h1.1)) <;> first | contradiction | exact .inl h1 | exact .inl hx | exact .inr (by omega))), (hB31.onto (((hE5.trans hE11).trans hE18).trans hE28) (by omega))⟩
   | true =>
    refine WL.eql rfl rfl rfl rfl hc24 ?_
    have hp24 := beq_iff_eq.1 hc24
    refine asg ?_
    refine WL.dn ?_
    refine cT ?_
    refine WC.seqk ?_
    have h01 : T.subs.length = 1 := by first | exact Nd.right_six (Nd.nice_right hfi.1) (by omega) | exact (Nd.right_five (Nd.nice_right hfi.1) (by omega)).1
    obtain ⟨t25, ht25⟩ : ∃ t, (Nd.normT T.subs k)[0]? = some t := ⟨_, List.getElem?_eq_getElem (by rw [Nd.normT_len _ hk]; omega)⟩
    obtain ⟨eb25, el25, hea25, hgb25, hgl25, her25, hn25⟩ := hM.at ht25
    obtain ⟨a25, cap25, rfl, hts25, hlen25⟩ := hn25.op2
    cases hea25
    have hkn : k = T.subs.length := by omega
    have hq0 := ht25
    rw [Nd.normT_all _ hkn, List.getElem?_map] at hq0
    obtain ⟨u0, hu0, hq1⟩ := Option.map_eq_some_iff.1 hq0
    have hn0 : t25.nice = true := by rw [← hq1]; exact (hP u0 (hfi.sub (List.mem_of_getElem? hu0)) (Nd.sok_subs hsT (List.mem_of_getElem? hu0))).1.1
    have h26 := (((hts.ext hE5).ext hE11).ext hE18)
    have h27 := (((hT.ext hE5).ext hE11).ext hE18)
    refine WC.weaken (r' := [(1, pt b1 0), (2, pt b7 0), (3, .slice (some ⟨w12.heap.size, 0, none⟩) ((T.subs.map Nd.norm).length) ((T.subs.map Nd.norm).length)), (11, .slice a T.subs.length cap), (12, .int .i64 T.subs.length), (13, .int .i64 (k : Int)), (14, .bool false), (24, pt b1 0), (25, .int .u8 T.kind), (27, .bool false), (26, .bool false), (33, .bool true), (32, .bool true)]) (s4 (s4 (s4 (sr rfl (subReg_nil _))))) ?_
    refine WC.draw 5 [34, 35, 36, 37, 38] [pc (.slice (some ⟨w12.heap.size, 0, none⟩) ((T.subs.map Nd.norm).length) ((T.subs.map Nd.norm).length)), pc (pt w12.heap.size (0 + 0 * 8)), pc (.agg (tcells t25 (.slice a25 t25.subs.length cap25)).toArray), pc (.agg (tcells T (.slice a T.subs.length cap)).toArray), pc (.agg #[.int .i64 (Nd.bof T).1, .int .i64 (Nd.bof T).2])] (by kernel_rfl) (by kernel_rfl) (k4 ⟨KW_pc _, trivial⟩) rfl rfl rfl (sc4 ?_ ?_ ?_ ?_ (sc ?_ (StepsOn.nil _))) ?_
    ·intro σ β w1 hE1 hbi hk
     refine ⟨[], (agree_nil _), ?_⟩
     refine mv ?_
     exact dq hbi rfl
    ·intro σ β w1 hE1 hbi hk
     have hz1 := hE1.size
     refine ⟨[(34, .slice (some ⟨w12.heap.size, 0, none⟩) ((T.subs.map Nd.norm).length) ((T.subs.map Nd.norm).length))], (ak hk 0 (agree_nil _)), ?_⟩
     refine WL.indexAddr (i := 0) rfl rfl Ty.slice24 rfl rfl rfl (by omega) ?_
     exact dq hbi rfl
    ·intro σ β w1 hE1 hbi hk
     refine ⟨[(35, pt w12.heap.size (0 + 0 * 8))], (ak hk 1 (agree_nil _)), ?_⟩
     refine WL.load_agg (l := tcells t25 (.slice a25 t25.subs.length cap25)) rfl rfl Ty.agg30 rfl (her25.ext hE1) ?_
     exact dq hbi rfl
    ·intro σ β w1 hE1 hbi hk
     refine ⟨[], (agree_nil _), ?_⟩
     refine WL.load_box rfl rfl rfl (h22.ext hE1) Ty.agg30 ?_
     exact dq hbi rfl
    ·intro σ β w1 hE1 hbi hk
     refine ⟨[(37, .agg (tcells T (.slice a T.subs.length cap)).toArray)], (ak hk 3 (agree_nil _)), ?_⟩
     refine WL.call rfl rfl rfl Ty.ent43 (bof_ok _ _ _ T (h27.ext hE1)) ?_
     rintro _ w50 ⟨rfl, hE49⟩
     refine ⟨_, rfl, ?_⟩
     exact dqE hbi hE49 rfl
    intro σ β w28 hE28 hbi28 hk
    have hz28 := hE28.size
    have hbi := hbi28
    refine WL.know [(36, .agg (tcells t25 (.slice a25 t25.subs.length cap25)).toArray), (38, .agg #[.int .i64 (Nd.bof T).1, .int .i64 (Nd.bof T).2])] (aj hk 2 (aj hk 4 (agree_nil _))) ?_
    refine WL.call rfl rfl rfl Ty.ent42 (timesN_ok _ _ _ t25 (Nd.bof T) (hn25.ext hE28) hn0) ?_
    rintro _ w33 ⟨l31, rfl, hr31, hE32⟩
    have hzhE32 := hE32.size
    refine ⟨_, rfl, ?_⟩
    have hn31 := hr31.lt
    obtain ⟨a31, cap31, rfl, hts31, hlen31⟩ := hn31.op2
    have h36 := (((hR10.ext hE18).ext hE28).ext hE32)
    refine WL.store_box rfl rfl rfl h36 Ty.agg30 rfl rfl (fun w37 hB35 hR34 => ?_)
    have hzhB35 := hB35.size
    refine WL.dn ?_
    refine WC.ret (fun a_ ha => ?_)
    refine ret_block ?_
    refine ret_then ?_
    exact bodyPost_cell (l := (tcells (Nd.timesN t25 (Nd.bof T)) (.slice a31 (Nd.timesN t25 (Nd.bof T)).subs.length cap31))) rfl ha rfl Ty.agg30 hR34 ⟨_, rfl, (by have hq2 : (T.subs.map Nd.norm)[0]? = some t25 := (by rw [← Nd.normT_all T.subs (show k = T.subs.length by omega)]; exact ht25); rw [show Nd.norm T = (Nd.timesN t25 (Nd.bof T)) from by rw [Nd.norm_eq]; simp only [Nd.normK, hq2, Option.getD_some, hc21, hc23, hc24, cond_true, cond_false, Bool.not_true, Bool.not_false, Bool.or_true, Bool.true_or, Bool.or_false, Bool.false_or, Bool.and_true, Bool.true_and, Bool.and_false, Bool.false_and]]; exact (hn31.bu hB35).dom (by intro k h1; (try dsimp only at h1); (repeat' first | (guard_hyp h1 : _ ∨ _; refine Or.elim h1 (fun h1 => ?_) (fun h1 => ?_)) | (guard_hyp h1 : _ ∧ _; have hx := h1.2; replace h1 := h1.1)) <;> first | contradiction | exact .inl h1 | exact .inl hx | exact .inr (by omega))), (hB35.onto ((((hE5.trans hE11).trans hE18).trans hE28).trans hE32) (by omega))⟩
  | true =>
   refine WL.eql rfl rfl rfl rfl hc23 ?_
   have hp23 := beq_iff_eq.1 hc23
   refine asg ?_
   refine WL.dn ?_
   refine cT ?_
   refine sq ?_
   refine mv ?_
   have h01 : T.subs.length = 1 := by first | exact Nd.right_six (Nd.nice_right hfi.1) (by omega) | exact (Nd.right_five (Nd.nice_right hfi.1) (by omega)).1
   obtain ⟨t24, ht24⟩ : ∃ t, (Nd.normT T.subs k)[0]? = some t := ⟨_, List.getElem?_eq_getElem (by rw [Nd.normT_len _ hk]; omega)⟩
   obtain ⟨eb24, el24, hea24, hgb24, hgl24, her24, hn24⟩ := hM.at ht24
   obtain ⟨a24, cap24, rfl, hts24, hlen24⟩ := hn24.op2
   cases hea24
   refine WL.indexAddr (i := 0) rfl rfl Ty.slice24 rfl rfl rfl (by omega) ?_
   refine WL.load_agg (l := tcells t24 (.slice a24 t24.subs.length cap24)) rfl rfl Ty.agg30 rfl her24 ?_
   refine WL.call rfl rfl rfl Ty.ent13 (capture_ok _ _ _ t24 hn24) ?_
   rintro _ w27 ⟨l25, rfl, hr25, hE26⟩
   have hzhE26 := hE26.size
   refine ⟨_, rfl, ?_⟩
   have hn25 := hr25.lt
   obtain ⟨a25, cap25, rfl, hts25, hlen25⟩ := hn25.op2
   have h30 := ((hR10.ext hE18).ext hE26)
   refine WL.store_box rfl rfl rfl h30 Ty.agg30 rfl rfl (fun w31 hB29 hR28 => ?_)
   have hzhB29 := hB29.size
   refine WL.dn ?_
   refine WC.ret (fun a_ ha => ?_)
   refine ret_block ?_
   refine ret_then ?_
   exact bodyPost_cell (l := (tcells (Nd.capture t24) (.slice a25 (Nd.capture t24).subs.length cap25))) rfl ha rfl Ty.agg30 hR28 ⟨_, rfl, (by have hq2 : (T.subs.map Nd.norm)[0]? = some t24 := (by rw [← Nd.normT_all T.subs (show k = T.subs.length by omega)]; exact ht24); rw [show Nd.norm T = (Nd.capture t24) from by rw [Nd.norm_eq]; simp only [Nd.normK, hq2, Option.getD_some, hc21, hc23, cond_true, cond_false, Bool.not_true, Bool.not_false, Bool.or_true, Bool.true_or, Bool.or_false, Bool.false_or, Bool.and_true, Bool.true_and, Bool.and_false, Bool.false_and]]; exact (hn25.bu hB29).dom (by intro k h1; (try dsimp only at h1); (repeat' first | (guard_hyp h1 : _ ∨ _; refine Or.elim h1 (fun h1 => ?_) (fun h1 => ?_)) | (guard_hyp h1 : _ ∧ _; have hx := h1.2; replace h1 := h1.1)) <;> first | contradiction | exact .inl h1 | exact .inl hx | exact .inr (by omega))), (hB29.onto (((hE5.trans hE11).trans hE18).trans hE26) (by omega))⟩
 | true =>
  refine WL.lss rfl rfl rfl rfl hc21 ?_
  have hp21 := of_decide_eq_true hc21
  refine WL.dn ?_
  refine WC.seqk ?_
  refine cT ?_
  refine WC.sk ?_
  refine WC.seqk ?_
  refine WC.block ?_
  refine sq ?_
  refine mv ?_
  have h22 := (((hts.ext hE5).ext hE11).ext hE18)
  obtain ⟨t23, ht23⟩ : ∃ t, T.subs[k]? = some t := ⟨_, List.getElem?_eq_getElem (by omega)⟩
  obtain ⟨eb23, eo23, el23, hea23, hD23, her23, hn23⟩ := h22.at ht23
  obtain ⟨a23, cap23, rfl, hts23, hlen23⟩ := hn23.op2
  subst hea23
  refine WL.indexAddr (i := k) rfl rfl Ty.slice24 rfl rfl rfl (by omega) ?_
  refine WL.load_agg (l := tcells t23 (.slice a23 t23.subs.length cap23)) rfl rfl Ty.agg30 rfl her23 ?_
  refine WL.alloc rfl rfl Ty.zero30 rfl (fun b24 w29 hb25 hE28 hs26 hR27 => ?_)
  refine asg ?_
  refine WL.store_box rfl rfl rfl hR27 Ty.agg30 rfl rfl (fun w32 hB31 hR30 => ?_)
  have hzhB31 := hB31.size
  refine WL.dn ?_
  refine WC.region ?_
  refine mv ?_
  refine mv ?_
  refine WL.load_box rfl rfl rfl hR30 Ty.agg30 ?_
  have h33 := ((hn23.ext hE28).bu hB31)
  refine WL.call rfl rfl rfl Ty.ent28 (ih t23 (List.mem_of_getElem? ht23) _ _ _ h33 (hfi.sub (List.mem_of_getElem? ht23)) (Nd.sok_subs hsT (List.mem_of_getElem? ht23))) ?_
  rintro _ w36 ⟨l34, rfl, hr34, hE35⟩
  have hzhE35 := hE35.size
  refine ⟨_, rfl, ?_⟩
  have hn34 := hr34.lt
  obtain ⟨a34, cap34, rfl, hts34, hlen34⟩ := hn34.op2
  have h37 := (((hM.ext hE28).but hB31 (by rintro i hi ⟨h1, h2⟩; first | omega | (dsimp only at h1; omega) | ((try dsimp only at h1); (repeat' first | (guard_hyp h1 : _ ∨ _; refine Or.elim h1 (fun h1 => ?_) (fun h1 => ?_)) | (guard_hyp h1 : _ ∧ _; have hx := h1.2; replace h1 := h1.1)) <;> first | contradiction | omega)) (fun hk => by have := (hM.ext hE28).block _ hk; have := hob _ hk; omega)).ext hE35)
  obtain ⟨t38, ht38⟩ : ∃ t, (Nd.normT T.subs k)[k]? = some t := ⟨_, List.getElem?_eq_getElem (by rw [Nd.normT_len _ hk]; omega)⟩
  obtain ⟨eb38, el38, hea38, hgb38, hgl38, her38, hn38⟩ := h37.at ht38
  obtain ⟨a38, cap38, rfl, hts38, hlen38⟩ := hn38.op2
  cases hea38
  refine WL.indexAddr (i := k) rfl rfl Ty.slice24 rfl rfl rfl (by omega) ?_
  refine WL.storeV (i := k) (T := (Nd.norm t23)) rfl Ty.agg30 rfl rfl h37 (by omega) hn34 (by first | (rintro k ⟨h1, h2⟩ h3; first | omega | (dsimp only at h1; omega)) | (intro k h1 h3; (try dsimp only at h1); (repeat' first | (guard_hyp h1 : _ ∨ _; refine Or.elim h1 (fun h1 => ?_) (fun h1 => ?_)) | (guard_hyp h1 : _ ∧ _; have hx := h1.2; replace h1 := h1.1)) <;> first | contradiction | omega)) (fun w41 hB40 hM39 => ?_)
  have hzhB40 := hB40.size
  refine WL.dn ?_
  refine WC.region ?_
  refine WL.add (v := (k : Int) + 1) rfl rfl rfl rfl (IntWalk.i64_in _ (by omega)) ?_
  refine mv ?_
  refine WL.nil (fun a_ ha => ?_)
  have hN1 := Nd.normT_succ ht23
  exact ⟨k + 1, _, ha.weaken (s4 (sr rfl (sr rfl (subReg_nil _)))), ⟨rfl, (hB40.onto ((hB31.onto (hE18.trans hE28) (by omega)).trans hE35) (by omega)), ⟨by omega, (by rw [hN1]; exact (hM39).own (by rintro i b hi h1 h2 h3; (try dsimp only at h1); (repeat' first | (guard_hyp h1 : _ ∨ _; refine Or.elim h1 (fun h1 => ?_) (fun h1 => ?_)) | (guard_hyp h1 : _ ∧ _; have hx := h1.2; replace h1 := h1.1)) <;> first | exact hx.1 | (refine Or.elim hx.1 (fun h4 => ?_) (fun h4 => ?_) <;> first | exact .inl h4 | exact .inl h4.1 | exact .inl ⟨h4.1.1, h4.1.2⟩ | exact .inl h4.1.1 | exact .inr (by omega)) | contradiction | omega))⟩⟩, by first | omega | (dsimp only; omega)⟩
end Go.Proofs.Yteenegaadlhjdaa
namespace Go.Proofs.Yteenegaadlhjdaa
open Go.Proofs Go.RowKit
set_option maxRecDepth 20000 in
set_option maxHeartbeats 4000000 in
theorem copy_ok (D : Nat → Prop) (w : World) (l : List Value) (T : Nd) (hT : NodeL D w l T) :
  Calls Try.prog 27 #[.agg l.toArray] w fun e w' => ∃ l', e = .returned (.agg l'.toArray) ∧ NodeL (fun k => w.heap.size ≤ k) w' l' (Nd.copyT T) ∧ Ext w w' := by
 have hT := hT.lt
 obtain ⟨a, cap, rfl, hts, hlen⟩ := hT.op2
 refine Calls.enter (args := [.agg (tcells T (.slice a T.subs.length cap)).toArray]) Try.func27 rfl rfl rfl rfl ?_
 refine sq ?_
 refine WL.box_agg rfl rfl rfl (fun b1 w6 hb2 hE5 hs3 hR4 => ?_)
 refine WL.alloc rfl rfl Ty.zero30 rfl (fun b7 w12 hb8 hE11 hs9 hR10 => ?_)
 refine WL.dn ?_
 refine WC.seqk ?_
 refine sq ?_
 refine WL.load_box rfl rfl rfl (hR4.ext hE11) Ty.agg30 ?_
 have h13 := ((hT.ext hE5).ext hE11)
 refine WL.call rfl rfl rfl Ty.ent32 (light_ok _ _ _ _ h13) ?_
 rintro _ w15 ⟨rfl, hE14⟩
 have hzhE14 := hE14.size
 refine ⟨_, rfl, ?_⟩
 cases hc16 : Nd.light T with
 | false =>
  refine WL.not rfl rfl rfl ?_
  refine WL.dn ?_
  refine cT ?_
  refine sq ?_
  refine WL.build0 (l := (zc 0 0 0 (.slice none 0 0))) rfl rfl Ty.zero30 Ty.agg30 rfl Ty.bz30 ?_
  have hn17 : NodeL _ w15 (zc 0 0 0 (.slice none 0 0)) (Nd.mk 0 Nd.zero 0 0 ([])) := NodeL.shut (k := 0) (s := Nd.zero) (mn := 0) (mx := 0) (sl := .slice none 0 0) (ts := []) (NodesV.nil (fun _ => False) _ none 0)
  have hn17 := hn17.lt
  refine WL.store_box rfl rfl rfl (hR10.ext hE14) Ty.agg30 rfl rfl (fun w20 hB19 hR18 => ?_)
  have hzhB19 := hB19.size
  refine WL.dn ?_
  refine WC.ret (fun a_ ha => ?_)
  refine ret_then ?_
  exact bodyPost_cell (l := (zc 0 0 0 (.slice none 0 0))) rfl ha rfl Ty.agg30 hR18 ⟨_, rfl, (by simp only [Nd.copyT, hc16, cond_true, cond_false, Bool.not_true, Bool.not_false, Bool.or_true, Bool.true_or, Bool.or_false, Bool.false_or, Bool.and_true, Bool.true_and, Bool.and_false, Bool.false_and]; exact ((hn17.bu hB19).dom (by intro k hk; (try dsimp only at hk); first | omega | exact hk.1.elim))), (hB19.onto ((hE5.trans hE11).trans hE14) (by omega))⟩
 | true =>
  refine WL.not rfl rfl rfl ?_
  refine WL.dn ?_
  refine cF ?_
  refine WC.sk ?_
  refine sq ?_
  have h17 := ((hR4.ext hE11).ext hE14)
  refine WL.load_box rfl rfl rfl h17 Ty.agg30 ?_
  refine WL.call rfl rfl rfl Ty.ent37 (copied_ok T _ _ _ (h13.ext hE14) (by have := hc16; simpa [Nd.light] using this)) ?_
  rintro _ w20 ⟨l18, rfl, hr18, hE19⟩
  have hzhE19 := hE19.size
  refine ⟨_, rfl, ?_⟩
  have hn18 := hr18.lt
  obtain ⟨a18, cap18, rfl, hts18, hlen18⟩ := hn18.op2
  have h23 := ((hR10.ext hE14).ext hE19)
  refine WL.store_box rfl rfl rfl h23 Ty.agg30 rfl rfl (fun w24 hB22 hR21 => ?_)
  have hzhB22 := hB22.size
  refine WL.dn ?_
  refine WC.ret (fun a_ ha => ?_)
  exact bodyPost_cell (l := (tcells T (.slice a18 T.subs.length cap18))) rfl ha rfl Ty.agg30 hR21 ⟨_, rfl, (by simp only [Nd.copyT, hc16, cond_true, cond_false, Bool.not_true, Bool.not_false, Bool.or_true, Bool.true_or, Bool.or_false, Bool.false_or, Bool.and_true, Bool.true_and, Bool.and_false, Bool.false_and]; exact ((hn18.bu hB22).dom (by intro k hk; (try dsimp only at hk); first | omega | exact hk.1.elim))), (hB22.onto (((hE5.trans hE11).trans hE14).trans hE19) (by omega))⟩
set_option maxRecDepth 20000 in
set_option maxHeartbeats 4000000 in
theorem Norm_ok (hP : Nd.NormOk) (D : Nat → Prop) (w : World) (l : List Value) (T : Nd) (hT : NodeL D w l T) (hfi : T.clean = true → Nd.Fine T) (hsT : T.sok = true) :
  Calls Try.prog 9 #[.agg l.toArray] w fun e w' => ∃ l', e = .returned (.tuple #[.agg l'.toArray, .int .i64 (bif T.clean then 0 else 110)]) ∧ NodeL (fun k => w.heap.size ≤ k) w' l' (bif T.clean then Nd.norm T else Nd.none) ∧ Ext w w' := by
 have hT := hT.lt
 obtain ⟨a, cap, rfl, hts, hlen⟩ := hT.op2
 refine Calls.enter (args := [.agg (tcells T (.slice a T.subs.length cap)).toArray]) Try.func9 rfl rfl rfl rfl ?_
 refine sq ?_
 refine WL.box_agg rfl rfl rfl (fun b1 w6 hb2 hE5 hs3 hR4 => ?_)
 refine WL.alloc rfl rfl Ty.zero30 rfl (fun b7 w12 hb8 hE11 hs9 hR10 => ?_)
 refine asg ?_
 refine WL.dn ?_
 refine WC.seqk ?_
 refine sq ?_
 refine WL.load_box rfl rfl rfl (hR4.ext hE11) Ty.agg30 ?_
 have h13 := ((hT.ext hE5).ext hE11)
 refine WL.call rfl rfl rfl Ty.ent25 (clean_ok _ _ _ _ h13) ?_
 rintro _ w15 ⟨rfl, hE14⟩
 have hzhE14 := hE14.size
 refine ⟨_, rfl, ?_⟩
 cases hc16 : Nd.clean T with
 | false =>
  refine WL.not rfl rfl rfl ?_
  refine WL.dn ?_
  refine cT ?_
  refine sq ?_
  refine WL.build0 (l := (zc 0 0 0 (.slice none 0 0))) rfl rfl Ty.zero30 Ty.agg30 rfl Ty.bz30 ?_
  have hn17 : NodeL _ w15 (zc 0 0 0 (.slice none 0 0)) (Nd.mk 0 Nd.zero 0 0 ([])) := NodeL.shut (k := 0) (s := Nd.zero) (mn := 0) (mx := 0) (sl := .slice none 0 0) (ts := []) (NodesV.nil (fun _ => False) _ none 0)
  have hn17 := hn17.lt
  refine WL.store_box rfl rfl rfl (hR10.ext hE14) Ty.agg30 rfl rfl (fun w20 hB19 hR18 => ?_)
  have hzhB19 := hB19.size
  refine asg ?_
  refine WL.dn ?_
  refine WC.ret (fun a_ ha => ?_)
  refine ret_then ?_
  simp only [cond_true, cond_false]
  exact bodyPost_celltmp (l := (zc 0 0 0 (.slice none 0 0))) rfl ha rfl rfl Ty.agg30 hR18 ⟨_, rfl, ((hn17.bu hB19).dom (by intro k hk; (try dsimp only at hk); first | omega | exact hk.1.elim)), (hB19.onto ((hE5.trans hE11).trans hE14) (by omega))⟩
 | true =>
  refine WL.not rfl rfl rfl ?_
  refine WL.dn ?_
  refine cF ?_
  refine WC.sk ?_
  refine sq ?_
  have h17 := ((hR4.ext hE11).ext hE14)
  refine WL.load_box rfl rfl rfl h17 Ty.agg30 ?_
  refine WL.call rfl rfl rfl Ty.ent28 (norm_ok hP T _ _ _ (h13.ext hE14) (hfi hc16) hsT) ?_
  rintro _ w20 ⟨l18, rfl, hr18, hE19⟩
  have hzhE19 := hE19.size
  refine ⟨_, rfl, ?_⟩
  have hn18 := hr18.lt
  obtain ⟨a18, cap18, rfl, hts18, hlen18⟩ := hn18.op2
  refine WL.call rfl rfl rfl Ty.ent27 (copy_ok _ _ _ (Nd.norm T) hn18) ?_
  rintro _ w23 ⟨l21, rfl, hr21, hE22⟩
  have hzhE22 := hE22.size
  refine ⟨_, rfl, ?_⟩
  have hn21 := hr21.lt
  obtain ⟨a21, cap21, rfl, hts21, hlen21⟩ := hn21.op2
  have h26 := (((hR10.ext hE14).ext hE19).ext hE22)
  refine WL.store_box rfl rfl rfl h26 Ty.agg30 rfl rfl (fun w27 hB25 hR24 => ?_)
  have hzhB25 := hB25.size
  refine asg ?_
  refine WL.dn ?_
  refine WC.ret (fun a_ ha => ?_)
  simp only [cond_true, cond_false]
  exact bodyPost_celltmp (l := (tcells (Nd.copyT (Nd.norm T)) (.slice a21 (Nd.copyT (Nd.norm T)).subs.length cap21))) rfl ha rfl rfl Ty.agg30 hR24 ⟨_, rfl, (Eq.mp (congrArg (NodeL _ _ _) (Nd.copy_fine (hP T (hfi hc16) hsT).1)) ((hn21.bu hB25).dom (by intro k hk; (try dsimp only at hk); first | omega | exact hk.1.elim))), (hB25.onto ((((hE5.trans hE11).trans hE14).trans hE19).trans hE22) (by omega))⟩
set_option maxRecDepth 20000 in
set_option maxHeartbeats 4000000 in
theorem Plain_ok (D : Nat → Prop) (w : World) (l : List Value) (T : Nd) (hT : NodeL D w l T) :
  Calls Try.prog 8 #[.agg l.toArray] w fun e w' => e = .returned (.bool (T.clean && T.plain)) ∧ Ext w w' := by
 have hT := hT.lt
 obtain ⟨a, cap, rfl, hts, hlen⟩ := hT.op2
 refine Calls.enter (args := [.agg (tcells T (.slice a T.subs.length cap)).toArray]) Try.func8 rfl rfl rfl rfl ?_
 refine sq ?_
 refine WL.box_agg rfl rfl rfl (fun b1 w6 hb2 hE5 hs3 hR4 => ?_)
 refine asg ?_
 refine WL.dn ?_
 refine sq ?_
 refine WL.load_box rfl rfl rfl hR4 Ty.agg30 ?_
 refine WL.call rfl rfl rfl Ty.ent25 (clean_ok _ _ _ _ (hT.ext hE5)) ?_
 rintro _ w8 ⟨rfl, hE7⟩
 have hzhE7 := hE7.size
 refine ⟨_, rfl, ?_⟩
 cases hc9 : Nd.clean T with
 | false =>
  refine mv ?_
  refine ps ?_
  refine ps ?_
  refine pF ?_
  refine asg ?_
  refine WL.dn ?_
  refine WC.ret (fun a_ ha => ?_)
  exact bodyPost_tmp rfl ha rfl ⟨(by first | rfl | (congr 2; simp only [hc9, cond_true, cond_false, Bool.not_true, Bool.not_false, Bool.or_true, Bool.true_or, Bool.or_false, Bool.false_or, Bool.and_true, Bool.true_and, Bool.and_false, Bool.false_and])), (hE5.trans hE7)⟩
 | true =>
  refine mv ?_
  refine WL.load_box rfl rfl rfl (hR4.ext hE7) Ty.agg30 ?_
  have h10 := ((hT.ext hE5).ext hE7)
  refine WL.call rfl rfl rfl Ty.ent26 (plain_ok T _ _ _ h10) ?_
  rintro _ w12 ⟨rfl, hE11⟩
  have hzhE11 := hE11.size
  refine ⟨_, rfl, ?_⟩
  refine pT ?_
  refine asg ?_
  refine WL.dn ?_
  refine WC.ret (fun a_ ha => ?_)
  exact bodyPost_tmp rfl ha rfl ⟨(by first | rfl | (congr 2; simp only [hc9, cond_true, cond_false, Bool.not_true, Bool.not_false, Bool.or_true, Bool.true_or, Bool.or_false, Bool.false_or, Bool.and_true, Bool.true_and, Bool.and_false, Bool.false_and])), ((hE5.trans hE7).trans hE11)⟩
set_option maxRecDepth 20000 in
set_option maxHeartbeats 4000000 in
theorem Nullable_ok (D : Nat → Prop) (w : World) (l : List Value) (T : Nd) (hT : NodeL D w l T) :
  Calls Try.prog 14 #[.agg l.toArray] w fun e w' => e = .returned (.bool (T.clean && T.nullable)) ∧ Ext w w' := by
 have hT := hT.lt
 obtain ⟨a, cap, rfl, hts, hlen⟩ := hT.op2
 refine Calls.enter (args := [.agg (tcells T (.slice a T.subs.length cap)).toArray]) Try.func14 rfl rfl rfl rfl ?_
 refine sq ?_
 refine WL.box_agg rfl rfl rfl (fun b1 w6 hb2 hE5 hs3 hR4 => ?_)
 refine asg ?_
 refine WL.dn ?_
 refine sq ?_
 refine WL.load_box rfl rfl rfl hR4 Ty.agg30 ?_
 refine WL.call rfl rfl rfl Ty.ent25 (clean_ok _ _ _ _ (hT.ext hE5)) ?_
 rintro _ w8 ⟨rfl, hE7⟩
 have hzhE7 := hE7.size
 refine ⟨_, rfl, ?_⟩
 cases hc9 : Nd.clean T with
 | false =>
  refine mv ?_
  refine ps ?_
  refine ps ?_
  refine pF ?_
  refine asg ?_
  refine WL.dn ?_
  refine WC.ret (fun a_ ha => ?_)
  exact bodyPost_tmp rfl ha rfl ⟨(by first | rfl | (congr 2; simp only [hc9, cond_true, cond_false, Bool.not_true, Bool.not_false, Bool.or_true, Bool.true_or, Bool.or_false, Bool.false_or, Bool.and_true, Bool.true_and, Bool.and_false, Bool.false_and])), (hE5.trans hE7)⟩
 | true =>
  refine mv ?_
  refine WL.load_box rfl rfl rfl (hR4.ext hE7) Ty.agg30 ?_
  have h10 := ((hT.ext hE5).ext hE7)
  refine WL.call rfl rfl rfl Ty.ent35 (nullable_ok T _ _ _ h10 ((Nd.clean_iff _).1 hc9).2) ?_
  rintro _ w12 ⟨rfl, hE11⟩
  have hzhE11 := hE11.size
  refine ⟨_, rfl, ?_⟩
  refine pT ?_
  refine asg ?_
  refine WL.dn ?_
  refine WC.ret (fun a_ ha => ?_)
  exact bodyPost_tmp rfl ha rfl ⟨(by first | rfl | (congr 2; simp only [hc9, cond_true, cond_false, Bool.not_true, Bool.not_false, Bool.or_true, Bool.true_or, Bool.or_false, Bool.false_or, Bool.and_true, Bool.true_and, Bool.and_false, Bool.false_and])), ((hE5.trans hE7).trans hE11)⟩
end Go.Proofs.Yteenegaadlhjdaa
namespace Go.Proofs.Yteenegaadlhjdaa
namespace Nd
def Ok3 (t : Nd) : Prop := t.nice = true ∧ t.sok = true
theorem Ok3.subs {t u : Nd} (h : Ok3 t) (hu : u ∈ t.subs) : Ok3 u := ⟨nice_subs h.1 hu, sok_subs h.2 hu⟩
theorem nice_clean {t : Nd} (h : t.nice = true) (hs : t.size ≤ 10000) : t.clean = true := (clean_iff t).2 ⟨hs, h⟩
theorem nice_kind {t : Nd} (h : t.nice = true) : 1 ≤ t.kind := (right_kind (nice_right h)).1
theorem Ok3.empty : Ok3 empty := ⟨rfl, rfl⟩
theorem times_ok3 {n : Nd} {mn mx : Int} (h : Ok3 n) (hs : n.size ≤ 9000) (hb : bounds mn mx = true) : Ok3 (times n mn mx) := by
  have hc := nice_clean h.1 (by omega)
  have hg : n.good = true := by unfold good; rw [hc]; simp
  have hk := nice_kind h.1
  have hk0 : (n.kind == 0) = false := beq_eq_false_iff_ne.2 (by omega)
  unfold times
  dsimp only
  rw [hg, hb, hk0]
  simp only [Bool.not_true, Bool.and_false, Bool.or_false, Bool.false_and, cond_false, Bool.or_false]
  cases hz : ((mn == 0) && (mx == 0)) || (n.kind == 1)
  · simp only [cond_false]
    refine cond_p Ok3 h ?_
    have hk1 : n.kind ≠ 1 := by
      rw [Bool.or_eq_false_iff] at hz
      exact beq_eq_false_iff_ne.1 hz.2
    have hn := rep_nice h.1 hk1 hb
    have hcl : (mk 5 zero mn mx [n]).clean = true := nice_clean hn (by simp [size_mk, sizeL]; omega)
    unfold checked
    rw [hcl]
    exact ⟨hn, sok_mk sok_zero (fun u hu => by simp [Nd.subs] at hu; subst hu; exact h.2)⟩
  · exact Ok3.empty
theorem sub0_ok3 {x : Nd} (h : Ok3 x) (hk : x.kind = 5) : Ok3 (sub0 x) := by
  have h5 := right_five (nice_right h.1) hk
  obtain ⟨t, ht⟩ : ∃ t, x.subs[0]? = some t := ⟨_, List.getElem?_eq_getElem (by omega)⟩
  rw [sub0_at ht]
  exact h.subs (List.mem_of_getElem? ht)
theorem timesN_ok3 {x : Nd} {b : Bd} (h : Ok3 x) (hs : x.size ≤ 9000) (hb : bounds b.1 b.2 = true) : Ok3 (timesN x b) := by
  unfold timesN timesB
  have h1 := times_ok3 h hs hb
  have hss := sub0_sz x
  refine cond_p Ok3 h1 (cond_p Ok3 h ?_)
  cases h5 : ((x.kind == 5) && simple b && simple (bof x))
  · simp only [cond_false]
    exact cond_p Ok3 (times_ok3 h hs (by decide)) h1
  · simp only [cond_true]
    simp only [Bool.and_eq_true, beq_iff_eq] at h5
    refine times_ok3 (sub0_ok3 h h5.1.1) (by omega) ?_
    exact cond_p (fun z : Bd => bounds z.1 z.2 = true) (by decide) hb
theorem seq_ok3 {l : List Nd} (h : ∀ t ∈ l, Ok3 t ∧ t.size ≤ 1000) (hs : sizeL l ≤ 9999) : Ok3 (seq l) := by
  refine ⟨?_, seq_sok (fun t ht => (h t ht).1.2)⟩
  rw [seq_eq (fun t ht => ⟨(h t ht).1.1, (h t ht).2⟩) hs]
  have h2 : Two 3 1 Nd.empty := .inl ⟨rfl, rfl, rfl⟩
  exact h2.nice (flat_norm h2 (fun t ht => .inl (h t ht).1.1)) (.inl rfl)
theorem or_ok3 {l : List Nd} (h : ∀ t ∈ l, Ok3 t ∧ t.size ≤ 1000) (hs : sizeL l ≤ 9999) (hne : l ≠ []) : Ok3 (or l) := by
  refine ⟨?_, or_sok (fun t ht => (h t ht).1.2)⟩
  rw [or_eq (fun t ht => .inl ⟨(h t ht).1.1, (h t ht).2⟩) hs]
  have h2 : Two 4 0 Nd.none := .inr ⟨rfl, rfl, rfl⟩
  refine h2.nice (flat_norm h2 (fun t ht => .inl (h t ht).1.1)) (.inr ?_)
  cases l with
  | nil => exact absurd rfl hne
  | cons x l =>
    intro hh
    simp only [flat, List.flatMap_cons, List.append_eq_nil_iff] at hh
    exact flat1_alt_ne (h x (by simp)).1.1 hh.1
theorem merged_ok3 {x y o : Nd} (hx : Ok3 x) (hy : Ok3 y) (sx : x.size ≤ 9000) (sy : y.size ≤ 9000) (h : merged x y = some o) : Ok3 o := by
  unfold merged at h
  cases h1 : (!x.plain || !y.plain) <;> rw [h1] at h <;> simp only [cond_true, cond_false] at h
  · cases h2 : isStar y x <;> rw [h2] at h <;> simp only [cond_true, cond_false] at h
    · cases h3 : isStar x y <;> rw [h3] at h <;> simp only [cond_true, cond_false] at h
      · revert h
        generalize (Same2 x y && (x.kind == 5) && (bof x == star)) = b
        cases b <;> intro h
        · simp at h
        · simp at h; subst h; exact hx
      · cases h; exact timesN_ok3 hy sy (by decide)
    · cases h; exact timesN_ok3 hx sx (by decide)
  · simp at h
theorem mstep_ok3 {l l' : List Nd} (hl : ∀ t ∈ l, Ok3 t) (hs : sizeL l ≤ 9000) (h : mstep l = some l') : ∀ t ∈ l', Ok3 t := by
  induction l generalizing l' with
  | nil => simp [mstep] at h
  | cons a l ih =>
    cases l with
    | nil => simp [mstep] at h
    | cons b r =>
      simp only [sizeL] at hs
      simp only [mstep] at h
      cases hm : merged a b with
      | some m =>
        rw [hm] at h; simp only [Option.some.injEq] at h; subst h
        intro t ht
        rcases List.mem_cons.1 ht with rfl | ht
        · exact merged_ok3 (hl a (by simp)) (hl b (by simp)) (by omega) (by omega) hm
        · exact hl t (by simp [ht])
      | none =>
        rw [hm] at h
        simp only [Option.map_eq_some_iff] at h
        obtain ⟨q, hq, rfl⟩ := h
        intro t ht
        rcases List.mem_cons.1 ht with rfl | ht
        · exact hl _ (by simp)
        · exact ih (fun t ht => hl t (by simp [ht])) (by simp only [sizeL]; omega) hq t ht
theorem catF_ok3 {n : Nd} (h : Ok3 n) (hs : n.size ≤ 1000) : Ok3 (catF n) := by
  induction hz : n.size using Nat.strongRecOn generalizing n with
  | _ s ih =>
    by_cases hk : n.kind = 3 ∧ n.nice = true
    · cases hm : mstep n.subs with
      | none => rw [catF_none hm]; exact h
      | some l =>
        rw [catF_some hk.1 hk.2 hm]
        have h1 := mstep_sz (fun t ht => nice_subs hk.2 ht) hm
        have h2 := seq_sz l
        have h3 := size_subs n
        have h4 := mstep_ok3 (fun t ht => h.subs ht) (by omega) hm
        exact ih (seq l).size (by omega) (seq_ok3 (fun t ht => ⟨h4 t ht, by have := size_le_sizeL ht; omega⟩) (by omega)) (by omega) rfl
    · rw [catF, dif_neg hk]; exact h
theorem cat_ok3 {l : List Nd} (h : ∀ t ∈ l, Ok3 t) (hs : sizeL l ≤ 999) : Ok3 (cat l) :=
  catF_ok3 (seq_ok3 (fun t ht => ⟨h t ht, by have := size_le_sizeL ht; omega⟩) (by omega)) (by have := seq_sz l; omega)
end Nd
end Go.Proofs.Yteenegaadlhjdaa
namespace Go.Proofs.Yteenegaadlhjdaa
namespace Nd
theorem capStep_mem {acc : List Nd} {x t : Nd} (h : t ∈ capStep acc x) : t ∈ acc ∨ t = x := by
  revert h
  unfold capStep
  refine cond_p (fun z : List Nd => t ∈ z → t ∈ acc ∨ t = x) (fun h => ?_) (fun h => .inl h)
  rcases List.mem_append.1 h with h | h
  · exact .inl h
  · exact .inr (by simpa using h)
theorem foldl_cap_mem (l : List Nd) : ∀ acc t, t ∈ l.foldl capStep acc → t ∈ acc ∨ t ∈ l := by
  induction l with
  | nil => intro acc t h; exact .inl h
  | cons x l ih =>
    intro acc t h
    rcases ih _ t h with h | h
    · rcases capStep_mem h with h | h
      · exact .inl h
      · exact .inr (by simp [h])
    · exact .inr (by simp [h])
theorem foldl_cap_ne (l : List Nd) : ∀ acc, acc ≠ [] → l.foldl capStep acc ≠ [] := by
  induction l with
  | nil => intro acc h; exact h
  | cons x l ih =>
    intro acc h
    refine ih _ ?_
    unfold capStep
    exact cond_p (fun z : List Nd => z ≠ []) (by simp) h
theorem capL_ne {l : List Nd} (h : l ≠ []) : capL l ≠ [] := by
  cases l with
  | nil => exact absurd rfl h
  | cons x l =>
    refine foldl_cap_ne l _ ?_
    unfold capStep
    simp
theorem captured_ok3 {l : List Nd} (h : ∀ t ∈ l, Ok3 t ∧ t.size ≤ 1000) (hs : sizeL l ≤ 9999) (hne : l ≠ []) : Ok3 (captured l) := by
  have hm : ∀ t ∈ capL l, t ∈ l := fun t ht => (foldl_cap_mem l [] t ht).resolve_left (by simp)
  have hz : sizeL (capL l) ≤ sizeL l := by have := foldl_cap_sz l []; simpa [capL, sizeL] using this
  exact or_ok3 (fun t ht => h t (hm t ht)) (by omega) (capL_ne hne)
theorem sizeL_perm {a b : List Nd} (h : a.Perm b) : sizeL a = sizeL b := by
  induction h with
  | nil => rfl
  | cons x _ ih => simp only [sizeL, ih]
  | swap x y l => simp only [sizeL]; omega
  | trans _ _ h1 h2 => exact h1.trans h2
theorem dd_mem {l : List Nd} : ∀ {p t : Nd}, t ∈ dd p l → t ∈ l := by
  induction l with
  | nil => intro p t h; exact h
  | cons y l ih =>
    intro p t h
    simp only [dd] at h
    cases hc : Same2 y p <;> rw [hc] at h
    · rcases List.mem_cons.1 h with rfl | h
      · simp
      · simp [ih h]
    · simp [ih h]
theorem dd_sz (l : List Nd) : ∀ p, sizeL (dd p l) ≤ sizeL l := by
  induction l with
  | nil => intro p; exact Nat.le_refl _
  | cons y l ih =>
    intro p
    have := ih y
    simp only [dd]
    exact cond_p (fun z : List Nd => sizeL z ≤ sizeL (y :: l)) (by simp only [sizeL]; omega) (by simp only [sizeL]; omega)
theorem compactT_mem {l : List Nd} {t : Nd} (h : t ∈ compactT l) : t ∈ l := by
  cases l with
  | nil => exact h
  | cons x l =>
    rcases List.mem_cons.1 h with rfl | h
    · simp
    · simp [dd_mem h]
theorem compactT_sz (l : List Nd) : sizeL (compactT l) ≤ sizeL l := by
  cases l with
  | nil => exact Nat.le_refl _
  | cons x l => have := dd_sz l x; simp only [compactT, sizeL]; omega
theorem compactT_ne {l : List Nd} (h : l ≠ []) : compactT l ≠ [] := by
  cases l with
  | nil => exact absurd rfl h
  | cons x l => simp [compactT]
theorem orS_zero {s t : S4} (hs : SOk s) (h : orS s t = zero) : s = zero := by
  refine s_ext hs sok_zero (fun c _ => ?_)
  have h1 := sbit_or s t c
  rw [h] at h1
  have h2 : sbit zero c = false := by
    have := sbit_or zero zero c
    cases hb : sbit zero c
    · rfl
    · exfalso
      have hz : sbit zero c = (BitVec.ofInt 64 0).getLsbD (c % 64) := by unfold sbit wbit S4get; split <;> rfl
      rw [hb] at hz; simp at hz
  rw [h2] at h1 ⊢
  cases hb : sbit s c
  · rfl
  · rw [hb] at h1; simp at h1
theorem orS_zero' {s t : S4} (hs : SOk t) (h : orS s t = zero) : t = zero := by
  refine s_ext hs sok_zero (fun c _ => ?_)
  have h1 := sbit_or s t c
  rw [h] at h1
  have h2 : sbit zero c = false := by
    have hz : sbit zero c = (BitVec.ofInt 64 0).getLsbD (c % 64) := by unfold sbit wbit S4get; split <;> rfl
    rw [hz]; simp
  rw [h2] at h1 ⊢
  cases hb : sbit t c
  · rfl
  · rw [hb] at h1; simp at h1
theorem foldS_ne (l : List Nd) : ∀ s : S4, SOk s → s ≠ zero → l.foldl (fun s x => bif x.kind == 2 then orS s x.set else s) s ≠ zero := by
  induction l with
  | nil => intro s _ h; exact h
  | cons x l ih =>
    intro s hs h
    exact ih _ (cond_p SOk (each_ok orI_ok _ _) hs) (cond_p (fun z : S4 => z ≠ zero) (fun hh => h (orS_zero hs hh)) h)
theorem foldS_zero (l : List Nd) (h : (l.any fun x => x.kind == 2) = false) : ∀ s : S4, l.foldl (fun s x => bif x.kind == 2 then orS s x.set else s) s = s := by
  induction l with
  | nil => intro s; rfl
  | cons x l ih =>
    intro s
    simp only [List.any_cons, Bool.or_eq_false_iff] at h
    simp only [List.foldl_cons, h.1, cond_false]
    exact ih h.2 s
theorem altO_sz (l : List Nd) : sizeL (altO l) + (bif altE l then 1 else 0) + (bif (l.any fun x => x.kind == 2) then 1 else 0) ≤ sizeL l := by
  induction l with
  | nil => exact Nat.le_refl _
  | cons x l ih =>
    have hp := size_pos x
    simp only [altO, altE, List.any_cons, List.filter_cons] at ih ⊢
    cases h2 : (x.kind == 2)
    · cases h1 : (x.kind == 1)
      · simp only [Bool.not_false, Bool.and_true, if_true, sizeL, Bool.false_or] at ih ⊢
        omega
      · simp only [Bool.not_false, Bool.not_true, Bool.and_false, Bool.true_or, Bool.false_or, cond_true, sizeL] at ih ⊢
        have : (if false = true then x :: l.filter (fun x => !(x.kind == 2) && !(x.kind == 1)) else l.filter (fun x => !(x.kind == 2) && !(x.kind == 1))) = l.filter (fun x => !(x.kind == 2) && !(x.kind == 1)) := rfl
        rw [this]
        generalize (bif (l.any fun x => x.kind == 1) then 1 else 0) = u at ih
        omega
    · have h1 : (x.kind == 1) = false := by have := beq_iff_eq.1 h2; exact beq_eq_false_iff_ne.2 (by omega)
      rw [h1]
      simp only [Bool.not_true, Bool.false_and, Bool.true_or, Bool.false_or, cond_true, sizeL] at ih ⊢
      have : (if false = true then x :: l.filter (fun x => !(x.kind == 2) && !(x.kind == 1)) else l.filter (fun x => !(x.kind == 2) && !(x.kind == 1))) = l.filter (fun x => !(x.kind == 2) && !(x.kind == 1)) := rfl
      rw [this]
      generalize (bif (l.any fun x => x.kind == 2) then 1 else 0) = u at ih
      omega
theorem ofS_size (s : S4) : (ofS s).size = 1 := by
  unfold ofS
  exact cond_p (fun z : Nd => z.size = 1) rfl rfl
theorem altL_sz (l : List Nd) : sizeL (altL l) + (bif altE l then 1 else 0) ≤ sizeL l := by
  have h := altO_sz l
  unfold altL
  cases hc : ((ofS (altS l)).kind == 2)
  · simp only [cond_false]; omega
  · have ha : (l.any fun x => x.kind == 2) = true := by
      cases hh : (l.any fun x => x.kind == 2)
      · have : altS l = zero := foldS_zero l hh zero
        rw [this] at hc; exact absurd hc (by decide)
      · rfl
    rw [ha] at h
    simp only [cond_true, sizeL_append, sizeL, ofS_size] at h ⊢
    omega
theorem altL_ne {l : List Nd} (hl : ∀ t ∈ l, Ok3 t) (hne : l ≠ []) (he : altE l = false) : altL l ≠ [] := by
  unfold altL
  cases hc : ((ofS (altS l)).kind == 2)
  · simp only [cond_false]
    intro ho
    cases l with
    | nil => exact hne rfl
    | cons x l =>
      have h1 : (x.kind == 1) = false := by simp only [altE, List.any_cons, Bool.or_eq_false_iff] at he; exact he.1
      have h2 : (x.kind == 2) = true := by
        cases hh : (x.kind == 2)
        · exfalso
          have : x ∈ altO (x :: l) := List.mem_filter.2 ⟨by simp, by rw [hh, h1]; rfl⟩
          rw [ho] at this; cases this
        · rfl
      have hx := hl x (by simp)
      have hz : x.set ≠ zero := by
        have hr := nice_right hx.1
        obtain ⟨k, s, mn, mx, ts⟩ := x
        have hk : k = 2 := by simpa [kind] using h2
        subst hk
        intro hh
        simp only [Nd.set] at hh; subst hh
        simp [right, kind, set] at hr
      have : altS (x :: l) ≠ zero := by
        unfold altS
        simp only [List.foldl_cons, h2, cond_true]
        exact foldS_ne l _ (each_ok orI_ok _ _) (fun hh => hz (orS_zero' (sok_set hx.2) hh))
      unfold ofS at hc
      rw [show (altS (x :: l) == zero) = false from by simpa using this] at hc
      simp [kind] at hc
  · simp
end Nd
end Go.Proofs.Yteenegaadlhjdaa
namespace Go.Proofs.Yteenegaadlhjdaa
namespace Nd
theorem altM_sz (l : List Nd) : (altM l).size ≤ 1 + sizeL (altL l) := by
  refine Nat.le_trans (or_sz _) ?_
  have h1 := compactT_sz (sortT (altL l))
  have h2 := sizeL_perm (sortT_perm (altL l))
  omega
theorem altL_ok3 {n : Nd} (h : Ok3 n) (hs : n.size ≤ 1000) : ∀ t ∈ altL n.subs, Ok3 t := by
  have := altL_ok (n := n) (k := n.subs.length) h.1 h.2 (by omega)
  rw [List.take_length] at this
  exact fun t ht => (this t ht).1
theorem altM_ok3 {n : Nd} (h : Ok3 n) (hs : n.size ≤ 1000) (hne : altL n.subs ≠ []) : Ok3 (altM n.subs) := by
  have hz := altL_sz n.subs
  have h3 := size_subs n
  have h1 := compactT_sz (sortT (altL n.subs))
  have h2 := sizeL_perm (sortT_perm (altL n.subs))
  refine or_ok3 (fun t ht => ?_) (by omega) (compactT_ne (fun hh => hne ?_))
  · have hm : t ∈ altL n.subs := (sortT_perm _).mem_iff.1 (compactT_mem ht)
    exact ⟨altL_ok3 h hs t hm, by have := size_le_sizeL hm; omega⟩
  · exact List.perm_nil.1 (hh ▸ (sortT_perm (altL n.subs)).symm)
theorem altR_ok3 {n : Nd} (h : Ok3 n) (hs : n.size ≤ 1000) (hne : n.subs ≠ []) : Ok3 (altR n.subs) ∧ (altR n.subs).size ≤ n.size := by
  have hz := altL_sz n.subs
  have h3 := size_subs n
  have hm := altM_sz n.subs
  unfold altR
  cases he : altE n.subs
  · simp only [Bool.false_and, cond_false]
    exact ⟨altM_ok3 h hs (altL_ne (fun t ht => h.subs ht) hne he), by omega⟩
  · rw [he] at hz
    simp only [Bool.true_and, cond_true] at hz ⊢
    cases hk : ((altM n.subs).kind == 0)
    · simp only [cond_false]
      have hl : altL n.subs ≠ [] := fun hh => by
        have : altM n.subs = none := by unfold altM; rw [hh]; rfl
        rw [this] at hk; exact absurd hk (by decide)
      exact ⟨timesN_ok3 (altM_ok3 h hs hl) (by omega) (by decide), by have := timesN_sz (altM n.subs) opt; omega⟩
    · exact ⟨Ok3.empty, by show 1 ≤ _; omega⟩
theorem four_two {t : Nd} (h : t.right = true) (hk : t.kind = 4) : 1 < t.subs.length := by
  obtain ⟨k, s, mn, mx, ts⟩ := t
  simp only [kind] at hk
  subst hk
  simp only [right, kind, set, least, most, subs] at h ⊢
  simp at h
  have := of_decide_eq_true h.2.1; omega
theorem alt_ok3 {ts : List Nd} (h : ∀ t ∈ ts, Ok3 t) (hs : sizeL ts ≤ 999) (hne : ts ≠ []) : Ok3 (alt ts) ∧ (alt ts).size ≤ 1 + sizeL ts := by
  have hn := or_ok3 (fun t ht => ⟨h t ht, by have := size_le_sizeL ht; omega⟩) (by omega) hne
  have hz := or_sz ts
  unfold alt
  cases hk : ((or ts).kind != 4)
  · simp only [cond_false]
    have h4 : (or ts).kind = 4 := by simpa using hk
    have hsub : (or ts).subs ≠ [] := fun hh => by have := four_two (nice_right hn.1) h4; rw [hh] at this; simp at this
    have h3 := size_subs (or ts)
    refine cond_p (fun z : Nd => Ok3 z ∧ z.size ≤ 1 + sizeL ts) ?_ ?_
    · exact ⟨captured_ok3 (fun t ht => ⟨hn.subs ht, by have := size_le_sizeL ht; omega⟩) (by omega) hsub, by have := captured_sz (or ts).subs; omega⟩
    · have := altR_ok3 hn (by omega) hsub
      exact ⟨this.1, by omega⟩
  · exact ⟨hn, hz⟩
theorem capture_ok3 {t : Nd} (h : Ok3 t) (hs : t.size ≤ 9000) : Ok3 (capture t) ∧ (capture t).size ≤ 1 + t.size := by
  have hn := group_nice h.1
  have hz : (mk 6 zero 0 0 [t]).size = 1 + t.size := by simp [size_mk, sizeL]
  have hc := nice_clean hn (by omega)
  unfold capture checked
  rw [hc]
  exact ⟨⟨hn, sok_mk sok_zero (fun u hu => by simp [Nd.subs] at hu; subst hu; exact h.2)⟩, by simp only [cond_true]; omega⟩
theorem norm_main (t : Nd) : Ok3 t → t.size ≤ 1000 → Ok3 (norm t) ∧ (norm t).size ≤ t.size := by
  induction t using Nd.ind with
  | h kd st mn mx tsx ih =>
    intro h hs
    replace ih : ∀ t, t ∈ (Nd.mk kd st mn mx tsx).subs → _ := ih
    generalize Nd.mk kd st mn mx tsx = T at *
    clear kd st mn mx tsx
    have h3 := size_subs T
    have hsub : ∀ u ∈ T.subs, Ok3 (norm u) ∧ (norm u).size ≤ u.size := fun u hu => ih u hu (h.subs hu) (by have := size_le_sizeL hu; omega)
    have hl : ∀ t ∈ T.subs.map norm, Ok3 t := fun t ht => by obtain ⟨u, hu, rfl⟩ := List.mem_map.1 ht; exact (hsub u hu).1
    have hlz : ∀ l : List Nd, (∀ u ∈ l, (norm u).size ≤ u.size) → sizeL (l.map norm) ≤ sizeL l := by
      intro l
      induction l with
      | nil => intro _; exact Nat.le_refl _
      | cons x l ihl =>
        intro hx
        have h1 := hx x (by simp)
        have h2 := ihl (fun u hu => hx u (by simp [hu]))
        simp only [List.map_cons, sizeL]; omega
    have hz := hlz T.subs (fun u hu => (hsub u hu).2)
    have head : T.subs.length = 1 → ∃ u, T.subs[0]? = some u ∧ u ∈ T.subs ∧ (T.subs.map norm)[0]?.getD none = norm u := by
      intro h1
      obtain ⟨u, hu⟩ : ∃ u, T.subs[0]? = some u := ⟨_, List.getElem?_eq_getElem (by omega)⟩
      exact ⟨u, hu, List.mem_of_getElem? hu, by rw [List.getElem?_map, hu]; rfl⟩
    rw [norm_eq]
    unfold normK
    cases h6 : (T.kind == 6)
    · simp only [cond_false]
      cases h5 : (T.kind == 5)
      · simp only [cond_false]
        cases hk3 : (T.kind == 3)
        · simp only [cond_false]
          cases h4 : (T.kind == 4)
          · exact ⟨h, Nat.le_refl _⟩
          · simp only [cond_true]
            have hne : T.subs.map norm ≠ [] := fun hh => by
              have := four_two (nice_right h.1) (beq_iff_eq.1 h4)
              have h0 : T.subs = [] := by simpa using hh
              rw [h0] at this; simp at this
            have := alt_ok3 hl (by omega) hne
            exact ⟨this.1, by omega⟩
        · simp only [cond_true]
          exact ⟨cat_ok3 hl (by omega), by have := cat_sz (T.subs.map norm); omega⟩
      · simp only [cond_true]
        have hr := right_five (nice_right h.1) (beq_iff_eq.1 h5)
        obtain ⟨u, _, hu, hq⟩ := head hr.1
        rw [hq]
        have h7 := hsub u hu
        have h8 := size_le_sizeL hu
        exact ⟨timesN_ok3 h7.1 (by omega) hr.2.1, by have := timesN_sz (norm u) (bof T); omega⟩
    · simp only [cond_true]
      obtain ⟨u, _, hu, hq⟩ := head (right_six (nice_right h.1) (beq_iff_eq.1 h6))
      rw [hq]
      have h7 := hsub u hu
      have h8 := size_le_sizeL hu
      have := capture_ok3 h7.1 (by omega)
      exact ⟨this.1, by omega⟩
theorem normOk : NormOk := fun t hf hs => by
  have h := norm_main t ⟨hf.1, hs⟩ hf.2
  exact ⟨⟨h.1.1, by have := hf.2; omega⟩, h.1.2, h.2⟩
end Nd
end Go.Proofs.Yteenegaadlhjdaa
namespace Go.Proofs.Yteenegaadlhjdaa
open Go.Proofs Go.RowKit
set_option maxRecDepth 20000 in
set_option maxHeartbeats 4000000 in
theorem class_ok (w : World) (bs : List UInt8) (hbs : bs.length ≤ 100) :
  Calls Try.prog 20 #[.string ⟨List.toArray bs⟩] w fun e w' => ∃ l', e = .returned (.agg l'.toArray) ∧ NodeL (fun k => w.heap.size ≤ k) w' l' (Nd.classS bs) ∧ Ext w w' := by
 refine Calls.enter (args := [.string ⟨List.toArray bs⟩]) Try.func20 rfl rfl rfl rfl ?_
 refine sq ?_
 refine WL.alloc rfl rfl Ty.zero30 rfl (fun b1 w6 hb2 hE5 hs3 hR4 => ?_)
 refine WL.dn ?_
 refine sq ?_
 refine WL.alloc rfl rfl Ty.zero28 rfl (fun b7 w12 hb8 hE11 hs9 hR10 => ?_)
 refine WL.dn ?_
 refine WC.seqk ?_
 refine sq ?_
 refine mv ?_
 refine WL.lenS rfl rfl Try.underlying9 rfl ?_
 refine mv ?_
 refine WL.dn ?_
 refine WC.block ?_
 refine WC.weaken (r' := [(0, .string ⟨List.toArray bs⟩), (2, pt b1 0), (3, pt b7 0), (5, .string ⟨List.toArray bs⟩), (6, .int .i64 (bs.length : Int)), (7, .int .i64 0)]) (s4 (sr rfl (sr rfl (subReg_nil _)))) ?_
 refine WC.loop (σ := Nat) (fun k r_ w_ => r_ = [(0, .string ⟨List.toArray bs⟩), (2, pt b1 0), (3, pt b7 0), (5, .string ⟨List.toArray bs⟩), (6, .int .i64 (bs.length : Int)), (7, .int .i64 (k : Int))] ∧ Ext w w_ ∧ (k ≤ bs.length ∧ Row w_ b1 (zc 0 0 0 (.slice none 0 0)) 30 ∧ Row w_ b7 (scells (Nd.setB (bs.take k))) 28)) (fun k => bs.length - k) 0 ⟨rfl, (hE5.trans hE11), ⟨Nat.zero_le _, (hR4.ext hE11), hR10⟩⟩ ?_
 rintro k r_ w15 ⟨rfl, hE13, hI14⟩
 have hzhE13 := hE13.size
 obtain ⟨hk, hR2, hR3⟩ := hI14
 refine sq ?_
 cases hc16 : decide (((k : Int) : Int) < (bs.length : Int)) with
 | false =>
  refine WL.lss rfl rfl rfl rfl hc16 ?_
  have hp16 := of_decide_eq_false hc16
  refine WL.dn ?_
  refine WC.seqk ?_
  refine cF ?_
  refine WC.exit (fun a_ ha => ?_)
  refine exit_then ?_
  refine exit_then ?_
  refine exit_here ?_
  refine WC.at ?_ ha
  refine sq ?_
  refine WL.load_box rfl rfl rfl hR3 Ty.agg28 ?_
  refine WL.build (l := [.int .u8 2, .int .u64 (Nd.setB (bs.take k)).a, .int .u64 (Nd.setB (bs.take k)).b, .int .u64 (Nd.setB (bs.take k)).c, .int .u64 (Nd.setB (bs.take k)).d, .int .i64 0, .int .i64 0, .slice none 0 0]) rfl rfl Ty.zero30 Ty.st30 ⟨⟨rfl, rfl⟩, (by kernel_rfl)⟩ ?_
  have hn17 : NodeL _ w15 [.int .u8 2, .int .u64 (Nd.setB (bs.take k)).a, .int .u64 (Nd.setB (bs.take k)).b, .int .u64 (Nd.setB (bs.take k)).c, .int .u64 (Nd.setB (bs.take k)).d, .int .i64 0, .int .i64 0, .slice none 0 0] (Nd.mk 2 (Nd.setB (bs.take k)) 0 0 ([])) := NodeL.shut (k := 2) (s := (Nd.setB (bs.take k))) (mn := 0) (mx := 0) (sl := .slice none 0 0) (ts := []) (NodesV.nil (fun _ => False) _ none 0)
  have hn17 := hn17.lt
  refine WL.store_box rfl rfl rfl hR2 Ty.agg30 rfl rfl (fun w20 hB19 hR18 => ?_)
  have hzhB19 := hB19.size
  refine WL.dn ?_
  refine WC.ret (fun a_ ha => ?_)
  have hkk : k = bs.length := by omega
  have hF := (hn17.bu hB19)
  exact bodyPost_cell (l := [.int .u8 2, .int .u64 (Nd.setB (bs.take k)).a, .int .u64 (Nd.setB (bs.take k)).b, .int .u64 (Nd.setB (bs.take k)).c, .int .u64 (Nd.setB (bs.take k)).d, .int .i64 0, .int .i64 0, .slice none 0 0]) rfl ha rfl Ty.agg30 hR18 ⟨_, rfl, (by subst hkk; rw [List.take_length] at *; exact hF.dom (by intro k hk; exact hk.1.elim)), (hB19.onto hE13 (by omega))⟩
 | true =>
  refine WL.lss rfl rfl rfl rfl hc16 ?_
  have hp16 := of_decide_eq_true hc16
  refine WL.dn ?_
  refine WC.seqk ?_
  refine cT ?_
  refine WC.sk ?_
  refine WC.seqk ?_
  refine WC.block ?_
  refine sq ?_
  refine mv ?_
  refine asg ?_
  refine WL.dn ?_
  obtain ⟨c, hcb⟩ : ∃ c, bs[k]? = some c := ⟨_, List.getElem?_eq_getElem (by omega)⟩
  have hcl := c.toNat_lt
  have hc4 : c.toNat / 64 < 4 := by omega
  refine WC.weaken (r' := [(0, .string ⟨List.toArray bs⟩), (2, pt b1 0), (3, pt b7 0), (5, .string ⟨List.toArray bs⟩), (6, .int .i64 (bs.length : Int)), (7, .int .i64 (k : Int)), (8, .bool true), (9, .int .i64 (k : Int)), (4, .int .i64 (k : Int))]) (s4 (s4 (sr rfl (subReg_nil _)))) ?_
  refine WC.draw 12 [10, 11, 12, 13, 14, 15, 16, 17, 18, 19, 20, 21] [pc (.string ⟨List.toArray bs⟩), pc (.int .i64 (k : Int)), pc (.int .u8 (c.toNat : Int)), pc (.int .u8 ((c.toNat / 64 : Nat) : Int)), pc (pt b7 (0 + (c.toNat / 64) * 1)), pc (.int .u64 (Nd.S4get (Nd.setB (bs.take k)) (c.toNat / 64))), pc (.string ⟨List.toArray bs⟩), pc (.int .i64 (k : Int)), pc (.int .u8 (c.toNat : Int)), pc (.int .u8 ((c.toNat % 64 : Nat) : Int)), pc (.int .u64 (Nd.bit1 c.toNat)), pc (.int .u64 (Nd.orI (Nd.S4get (Nd.setB (bs.take k)) (c.toNat / 64)) (Nd.bit1 c.toNat)))] (by kernel_rfl) (by kernel_rfl) (k4 (k4 (k4 trivial))) rfl rfl rfl (sc4 ?_ ?_ ?_ ?_ (sc4 ?_ ?_ ?_ ?_ (sc4 ?_ ?_ ?_ ?_ (StepsOn.nil _)))) ?_
  ·intro σ β w1 hE1 hbi hk
   refine ⟨[], (agree_nil _), ?_⟩
   refine mv ?_
   exact dq hbi rfl
  ·intro σ β w1 hE1 hbi hk
   refine ⟨[], (agree_nil _), ?_⟩
   refine mv ?_
   exact dq hbi rfl
  ·intro σ β w1 hE1 hbi hk
   refine ⟨[(10, .string ⟨List.toArray bs⟩), (11, .int .i64 (k : Int))], (ak hk 0 (ak hk 1 (agree_nil _))), ?_⟩
   refine WL.indexS (i := k) rfl rfl Try.underlying9 rfl rfl rfl hcb ?_
   exact dq hbi rfl
  ·intro σ β w1 hE1 hbi hk
   refine ⟨[(12, .int .u8 (c.toNat : Int))], (ak hk 2 (agree_nil _)), ?_⟩
   refine WL.quo (v := ((c.toNat / 64 : Nat) : Int)) rfl rfl rfl rfl (by decide) (Nd.quo64 _ hcl) ?_
   exact dq hbi rfl
  ·intro σ β w1 hE1 hbi hk
   refine ⟨[(13, .int .u8 ((c.toNat / 64 : Nat) : Int))], (ak hk 3 (agree_nil _)), ?_⟩
   refine WL.indexAddrA (i := (c.toNat / 64)) rfl rfl Ty.arr28 rfl rfl rfl hc4 ?_
   exact dq hbi rfl
  ·intro σ β w1 hE1 hbi hk
   refine ⟨[(14, pt b7 (0 + (c.toNat / 64) * 1))], (ak hk 4 (agree_nil _)), ?_⟩
   refine WL.load_fld (v := .int .u64 (Nd.S4get (Nd.setB (bs.take k)) (c.toNat / 64))) rfl rfl Ty.flat26 rfl (hR3.ext hE1) (scells_get _ _ hc4) ?_
   exact dq hbi rfl
  ·intro σ β w1 hE1 hbi hk
   refine ⟨[], (agree_nil _), ?_⟩
   refine mv ?_
   exact dq hbi rfl
  ·intro σ β w1 hE1 hbi hk
   refine ⟨[], (agree_nil _), ?_⟩
   refine mv ?_
   exact dq hbi rfl
  ·intro σ β w1 hE1 hbi hk
   refine ⟨[(16, .string ⟨List.toArray bs⟩), (17, .int .i64 (k : Int))], (ak hk 6 (ak hk 7 (agree_nil _))), ?_⟩
   refine WL.indexS (i := k) rfl rfl Try.underlying9 rfl rfl rfl hcb ?_
   exact dq hbi rfl
  ·intro σ β w1 hE1 hbi hk
   refine ⟨[(18, .int .u8 (c.toNat : Int))], (ak hk 8 (agree_nil _)), ?_⟩
   refine WL.rem (v := ((c.toNat % 64 : Nat) : Int)) rfl rfl rfl rfl (by decide) (Nd.rem64 _) ?_
   exact dq hbi rfl
  ·intro σ β w1 hE1 hbi hk
   refine ⟨[(19, .int .u8 ((c.toNat % 64 : Nat) : Int))], (ak hk 9 (agree_nil _)), ?_⟩
   refine WL.shl (v := Nd.bit1 c.toNat) rfl rfl rfl rfl rfl ?_
   exact dq hbi rfl
  ·intro σ β w1 hE1 hbi hk
   refine ⟨[(15, .int .u64 (Nd.S4get (Nd.setB (bs.take k)) (c.toNat / 64))), (20, .int .u64 (Nd.bit1 c.toNat))], (ak hk 5 (ak hk 10 (agree_nil _))), ?_⟩
   refine WL.or (v := Nd.orI (Nd.S4get (Nd.setB (bs.take k)) (c.toNat / 64)) (Nd.bit1 c.toNat)) rfl rfl rfl rfl rfl ?_
   exact dq hbi rfl
  intro σ β w17 hE17 hbi17 hk
  have hz17 := hE17.size
  have hbi := hbi17
  refine WL.know [(13, .int .u8 ((c.toNat / 64 : Nat) : Int)), (21, .int .u64 (Nd.orI (Nd.S4get (Nd.setB (bs.take k)) (c.toNat / 64)) (Nd.bit1 c.toNat)))] (aj hk 3 (aj hk 11 (agree_nil _))) ?_
  refine WL.indexAddrA (i := (c.toNat / 64)) rfl rfl Ty.arr28 rfl rfl rfl hc4 ?_
  refine WL.store_fld (new := [.int .u64 (Nd.set1 (Nd.setB (bs.take k)) c.toNat).a, .int .u64 (Nd.set1 (Nd.setB (bs.take k)) c.toNat).b, .int .u64 (Nd.set1 (Nd.setB (bs.take k)) c.toNat).c, .int .u64 (Nd.set1 (Nd.setB (bs.take k)) c.toNat).d]) rfl Ty.flat26 rfl rfl (hR3.ext hE17) rfl rfl (by simp; omega) (scells_put _ _ _ hc4) (fun w22 hB21 hR20 => ?_)
  have hzhB21 := hB21.size
  refine WL.dn ?_
  refine WC.region ?_
  refine WL.add (v := (k : Int) + 1) rfl rfl rfl rfl (IntWalk.i64_in _ (by omega)) ?_
  refine mv ?_
  refine WL.nil (fun a_ ha => ?_)
  have h23 := (hB21.row (hR2.ext hE17) (by omega))
  exact ⟨k + 1, _, ha.weaken (s4 (sr rfl (sr rfl (subReg_nil _)))), ⟨rfl, (hB21.onto (hE13.trans hE17) (by omega)), ⟨by omega, h23, (by rw [Nd.setB_succ hcb]; exact hR20)⟩⟩, by first | omega | (dsimp only; omega)⟩
set_option maxRecDepth 20000 in
set_option maxHeartbeats 4000000 in
theorem letters_ok (w : World) (n : Int) (hn : 0 ≤ n) :
  Calls Try.prog 21 #[.int .u8 n] w fun e w' => e = .returned (.string ⟨List.toArray (Nd.lettersS n)⟩) ∧ Ext w w' := by
 have hm : n.tmod 12 = n % 12 := Int.tmod_eq_emod_of_nonneg hn
 refine Calls.enter (args := [.int .u8 n]) Try.func21 rfl rfl rfl rfl ?_
 refine sq ?_
 refine asg ?_
 refine WL.dn ?_
 refine sq ?_
 refine WL.buildSlice (vs := [.string ⟨List.toArray ([97])⟩, .string ⟨List.toArray ([98])⟩, .string ⟨List.toArray ([97, 98])⟩, .string ⟨List.toArray ([97])⟩, .string ⟨List.toArray ([98])⟩, .string ⟨List.toArray ([99])⟩, .string ⟨List.toArray ([97, 98, 99])⟩, .string ⟨List.toArray ([98, 99])⟩, .string ⟨List.toArray ([10])⟩, .string ⟨List.toArray ([0, 255])⟩, .string ⟨List.toArray ([97])⟩, .string ⟨List.toArray ([98])⟩]) (cells := [.string ⟨List.toArray ([97])⟩, .string ⟨List.toArray ([98])⟩, .string ⟨List.toArray ([97, 98])⟩, .string ⟨List.toArray ([97])⟩, .string ⟨List.toArray ([98])⟩, .string ⟨List.toArray ([99])⟩, .string ⟨List.toArray ([97, 98, 99])⟩, .string ⟨List.toArray ([98, 99])⟩, .string ⟨List.toArray ([10])⟩, .string ⟨List.toArray ([0, 255])⟩, .string ⟨List.toArray ([97])⟩, .string ⟨List.toArray ([98])⟩]) rfl rfl Ty.slice55 Ty.zero9 rfl rfl rfl rfl rfl rfl (fun b1 w6 hb2 hE5 hs3 hR4 => ?_)
 refine mv ?_
 refine WL.rem (v := (n.tmod 12)) rfl rfl rfl rfl (by decide) rfl ?_
 refine WL.indexAddr (i := (n.tmod 12).toNat) rfl rfl Ty.slice55 rfl rfl (by omega) (by omega) ?_
 refine WL.load_fld (v := .string ⟨List.toArray (Nd.lettersS n)⟩) rfl rfl Ty.flat9 rfl hR4 (by have h : (n.tmod 12).toNat = 0 ∨ (n.tmod 12).toNat = 1 ∨ (n.tmod 12).toNat = 2 ∨ (n.tmod 12).toNat = 3 ∨ (n.tmod 12).toNat = 4 ∨ (n.tmod 12).toNat = 5 ∨ (n.tmod 12).toNat = 6 ∨ (n.tmod 12).toNat = 7 ∨ (n.tmod 12).toNat = 8 ∨ (n.tmod 12).toNat = 9 ∨ (n.tmod 12).toNat = 10 ∨ (n.tmod 12).toNat = 11 := (by omega); unfold Nd.lettersS; rcases h with h | h | h | h | h | h | h | h | h | h | h | h <;> rw [h] <;> rfl) ?_
 refine asg ?_
 refine WL.dn ?_
 refine WC.ret (fun a_ ha => ?_)
 exact bodyPost_tmp rfl ha rfl ⟨rfl, hE5⟩
end Go.Proofs.Yteenegaadlhjdaa
namespace Go.Proofs.Yteenegaadlhjdaa
open Go.Proofs Go.RowKit
set_option maxRecDepth 20000 in
set_option maxHeartbeats 4000000 in
theorem class11_ok (w : World) (bs : List UInt8) (hbs : bs.length ≤ 100) :
  Calls Try.prog 12 #[.string ⟨List.toArray bs⟩] w fun e w' => ∃ l', e = .returned (.agg l'.toArray) ∧ NodeL (fun k => w.heap.size ≤ k) w' l' (Nd.classS bs) ∧ Ext w w' := by
 refine Calls.enter (args := [.string ⟨List.toArray bs⟩]) Try.func12 rfl rfl rfl rfl ?_
 refine sq ?_
 refine WL.alloc rfl rfl Ty.zero30 rfl (fun b1 w6 hb2 hE5 hs3 hR4 => ?_)
 refine WL.dn ?_
 refine sq ?_
 refine WL.alloc rfl rfl Ty.zero28 rfl (fun b7 w12 hb8 hE11 hs9 hR10 => ?_)
 refine WL.dn ?_
 refine WC.seqk ?_
 refine sq ?_
 refine mv ?_
 refine WL.lenS rfl rfl Try.underlying9 rfl ?_
 refine mv ?_
 refine WL.dn ?_
 refine WC.block ?_
 refine WC.weaken (r' := [(0, .string ⟨List.toArray bs⟩), (2, pt b1 0), (3, pt b7 0), (5, .string ⟨List.toArray bs⟩), (6, .int .i64 (bs.length : Int)), (7, .int .i64 0)]) (s4 (sr rfl (sr rfl (subReg_nil _)))) ?_
 refine WC.loop (σ := Nat) (fun k r_ w_ => r_ = [(0, .string ⟨List.toArray bs⟩), (2, pt b1 0), (3, pt b7 0), (5, .string ⟨List.toArray bs⟩), (6, .int .i64 (bs.length : Int)), (7, .int .i64 (k : Int))] ∧ Ext w w_ ∧ (k ≤ bs.length ∧ Row w_ b1 (zc 0 0 0 (.slice none 0 0)) 30 ∧ Row w_ b7 (scells (Nd.setB (bs.take k))) 28)) (fun k => bs.length - k) 0 ⟨rfl, (hE5.trans hE11), ⟨Nat.zero_le _, (hR4.ext hE11), hR10⟩⟩ ?_
 rintro k r_ w15 ⟨rfl, hE13, hI14⟩
 have hzhE13 := hE13.size
 obtain ⟨hk, hR2, hR3⟩ := hI14
 refine sq ?_
 cases hc16 : decide (((k : Int) : Int) < (bs.length : Int)) with
 | false =>
  refine WL.lss rfl rfl rfl rfl hc16 ?_
  have hp16 := of_decide_eq_false hc16
  refine WL.dn ?_
  refine WC.seqk ?_
  refine cF ?_
  refine WC.exit (fun a_ ha => ?_)
  refine exit_then ?_
  refine exit_then ?_
  refine exit_here ?_
  refine WC.at ?_ ha
  refine sq ?_
  refine WL.load_box rfl rfl rfl hR3 Ty.agg28 ?_
  refine WL.build (l := [.int .u8 2, .int .u64 (Nd.setB (bs.take k)).a, .int .u64 (Nd.setB (bs.take k)).b, .int .u64 (Nd.setB (bs.take k)).c, .int .u64 (Nd.setB (bs.take k)).d, .int .i64 0, .int .i64 0, .slice none 0 0]) rfl rfl Ty.zero30 Ty.st30 ⟨⟨rfl, rfl⟩, (by kernel_rfl)⟩ ?_
  have hn17 : NodeL _ w15 [.int .u8 2, .int .u64 (Nd.setB (bs.take k)).a, .int .u64 (Nd.setB (bs.take k)).b, .int .u64 (Nd.setB (bs.take k)).c, .int .u64 (Nd.setB (bs.take k)).d, .int .i64 0, .int .i64 0, .slice none 0 0] (Nd.mk 2 (Nd.setB (bs.take k)) 0 0 ([])) := NodeL.shut (k := 2) (s := (Nd.setB (bs.take k))) (mn := 0) (mx := 0) (sl := .slice none 0 0) (ts := []) (NodesV.nil (fun _ => False) _ none 0)
  have hn17 := hn17.lt
  refine WL.store_box rfl rfl rfl hR2 Ty.agg30 rfl rfl (fun w20 hB19 hR18 => ?_)
  have hzhB19 := hB19.size
  refine WL.dn ?_
  refine WC.ret (fun a_ ha => ?_)
  have hkk : k = bs.length := by omega
  have hF := (hn17.bu hB19)
  exact bodyPost_cell (l := [.int .u8 2, .int .u64 (Nd.setB (bs.take k)).a, .int .u64 (Nd.setB (bs.take k)).b, .int .u64 (Nd.setB (bs.take k)).c, .int .u64 (Nd.setB (bs.take k)).d, .int .i64 0, .int .i64 0, .slice none 0 0]) rfl ha rfl Ty.agg30 hR18 ⟨_, rfl, (by subst hkk; rw [List.take_length] at *; exact hF.dom (by intro k hk; exact hk.1.elim)), (hB19.onto hE13 (by omega))⟩
 | true =>
  refine WL.lss rfl rfl rfl rfl hc16 ?_
  have hp16 := of_decide_eq_true hc16
  refine WL.dn ?_
  refine WC.seqk ?_
  refine cT ?_
  refine WC.sk ?_
  refine WC.seqk ?_
  refine WC.block ?_
  refine sq ?_
  refine mv ?_
  refine asg ?_
  refine WL.dn ?_
  obtain ⟨c, hcb⟩ : ∃ c, bs[k]? = some c := ⟨_, List.getElem?_eq_getElem (by omega)⟩
  have hcl := c.toNat_lt
  have hc4 : c.toNat / 64 < 4 := by omega
  refine WC.weaken (r' := [(0, .string ⟨List.toArray bs⟩), (2, pt b1 0), (3, pt b7 0), (5, .string ⟨List.toArray bs⟩), (6, .int .i64 (bs.length : Int)), (7, .int .i64 (k : Int)), (8, .bool true), (9, .int .i64 (k : Int)), (4, .int .i64 (k : Int))]) (s4 (s4 (sr rfl (subReg_nil _)))) ?_
  refine WC.draw 12 [10, 11, 12, 13, 14, 15, 16, 17, 18, 19, 20, 21] [pc (.string ⟨List.toArray bs⟩), pc (.int .i64 (k : Int)), pc (.int .u8 (c.toNat : Int)), pc (.int .u8 ((c.toNat / 64 : Nat) : Int)), pc (pt b7 (0 + (c.toNat / 64) * 1)), pc (.int .u64 (Nd.S4get (Nd.setB (bs.take k)) (c.toNat / 64))), pc (.string ⟨List.toArray bs⟩), pc (.int .i64 (k : Int)), pc (.int .u8 (c.toNat : Int)), pc (.int .u8 ((c.toNat % 64 : Nat) : Int)), pc (.int .u64 (Nd.bit1 c.toNat)), pc (.int .u64 (Nd.orI (Nd.S4get (Nd.setB (bs.take k)) (c.toNat / 64)) (Nd.bit1 c.toNat)))] (by kernel_rfl) (by kernel_rfl) (k4 (k4 (k4 trivial))) rfl rfl rfl (sc4 ?_ ?_ ?_ ?_ (sc4 ?_ ?_ ?_ ?_ (sc4 ?_ ?_ ?_ ?_ (StepsOn.nil _)))) ?_
  ·intro σ β w1 hE1 hbi hk
   refine ⟨[], (agree_nil _), ?_⟩
   refine mv ?_
   exact dq hbi rfl
  ·intro σ β w1 hE1 hbi hk
   refine ⟨[], (agree_nil _), ?_⟩
   refine mv ?_
   exact dq hbi rfl
  ·intro σ β w1 hE1 hbi hk
   refine ⟨[(10, .string ⟨List.toArray bs⟩), (11, .int .i64 (k : Int))], (ak hk 0 (ak hk 1 (agree_nil _))), ?_⟩
   refine WL.indexS (i := k) rfl rfl Try.underlying9 rfl rfl rfl hcb ?_
   exact dq hbi rfl
  ·intro σ β w1 hE1 hbi hk
   refine ⟨[(12, .int .u8 (c.toNat : Int))], (ak hk 2 (agree_nil _)), ?_⟩
   refine WL.quo (v := ((c.toNat / 64 : Nat) : Int)) rfl rfl rfl rfl (by decide) (Nd.quo64 _ hcl) ?_
   exact dq hbi rfl
  ·intro σ β w1 hE1 hbi hk
   refine ⟨[(13, .int .u8 ((c.toNat / 64 : Nat) : Int))], (ak hk 3 (agree_nil _)), ?_⟩
   refine WL.indexAddrA (i := (c.toNat / 64)) rfl rfl Ty.arr28 rfl rfl rfl hc4 ?_
   exact dq hbi rfl
  ·intro σ β w1 hE1 hbi hk
   refine ⟨[(14, pt b7 (0 + (c.toNat / 64) * 1))], (ak hk 4 (agree_nil _)), ?_⟩
   refine WL.load_fld (v := .int .u64 (Nd.S4get (Nd.setB (bs.take k)) (c.toNat / 64))) rfl rfl Ty.flat26 rfl (hR3.ext hE1) (scells_get _ _ hc4) ?_
   exact dq hbi rfl
  ·intro σ β w1 hE1 hbi hk
   refine ⟨[], (agree_nil _), ?_⟩
   refine mv ?_
   exact dq hbi rfl
  ·intro σ β w1 hE1 hbi hk
   refine ⟨[], (agree_nil _), ?_⟩
   refine mv ?_
   exact dq hbi rfl
  ·intro σ β w1 hE1 hbi hk
   refine ⟨[(16, .string ⟨List.toArray bs⟩), (17, .int .i64 (k : Int))], (ak hk 6 (ak hk 7 (agree_nil _))), ?_⟩
   refine WL.indexS (i := k) rfl rfl Try.underlying9 rfl rfl rfl hcb ?_
   exact dq hbi rfl
  ·intro σ β w1 hE1 hbi hk
   refine ⟨[(18, .int .u8 (c.toNat : Int))], (ak hk 8 (agree_nil _)), ?_⟩
   refine WL.rem (v := ((c.toNat % 64 : Nat) : Int)) rfl rfl rfl rfl (by decide) (Nd.rem64 _) ?_
   exact dq hbi rfl
  ·intro σ β w1 hE1 hbi hk
   refine ⟨[(19, .int .u8 ((c.toNat % 64 : Nat) : Int))], (ak hk 9 (agree_nil _)), ?_⟩
   refine WL.shl (v := Nd.bit1 c.toNat) rfl rfl rfl rfl rfl ?_
   exact dq hbi rfl
  ·intro σ β w1 hE1 hbi hk
   refine ⟨[(15, .int .u64 (Nd.S4get (Nd.setB (bs.take k)) (c.toNat / 64))), (20, .int .u64 (Nd.bit1 c.toNat))], (ak hk 5 (ak hk 10 (agree_nil _))), ?_⟩
   refine WL.or (v := Nd.orI (Nd.S4get (Nd.setB (bs.take k)) (c.toNat / 64)) (Nd.bit1 c.toNat)) rfl rfl rfl rfl rfl ?_
   exact dq hbi rfl
  intro σ β w17 hE17 hbi17 hk
  have hz17 := hE17.size
  have hbi := hbi17
  refine WL.know [(13, .int .u8 ((c.toNat / 64 : Nat) : Int)), (21, .int .u64 (Nd.orI (Nd.S4get (Nd.setB (bs.take k)) (c.toNat / 64)) (Nd.bit1 c.toNat)))] (aj hk 3 (aj hk 11 (agree_nil _))) ?_
  refine WL.indexAddrA (i := (c.toNat / 64)) rfl rfl Ty.arr28 rfl rfl rfl hc4 ?_
  refine WL.store_fld (new := [.int .u64 (Nd.set1 (Nd.setB (bs.take k)) c.toNat).a, .int .u64 (Nd.set1 (Nd.setB (bs.take k)) c.toNat).b, .int .u64 (Nd.set1 (Nd.setB (bs.take k)) c.toNat).c, .int .u64 (Nd.set1 (Nd.setB (bs.take k)) c.toNat).d]) rfl Ty.flat26 rfl rfl (hR3.ext hE17) rfl rfl (by simp; omega) (scells_put _ _ _ hc4) (fun w22 hB21 hR20 => ?_)
  have hzhB21 := hB21.size
  refine WL.dn ?_
  refine WC.region ?_
  refine WL.add (v := (k : Int) + 1) rfl rfl rfl rfl (IntWalk.i64_in _ (by omega)) ?_
  refine mv ?_
  refine WL.nil (fun a_ ha => ?_)
  have h23 := (hB21.row (hR2.ext hE17) (by omega))
  exact ⟨k + 1, _, ha.weaken (s4 (sr rfl (sr rfl (subReg_nil _)))), ⟨rfl, (hB21.onto (hE13.trans hE17) (by omega)), ⟨by omega, h23, (by rw [Nd.setB_succ hcb]; exact hR20)⟩⟩, by first | omega | (dsimp only; omega)⟩
set_option maxRecDepth 20000 in
set_option maxHeartbeats 4000000 in
theorem node11_ok (D : Nat → Prop) (w : World) (kd : Int) (a : Option Addr) (cap : Nat) (ts : List Nd) (hts : NodesV D w (.slice a ts.length cap) ts) :
  Calls Try.prog 19 #[.int .u8 kd, .slice a ts.length cap] w fun e w' => ∃ l', e = .returned (.agg l'.toArray) ∧ NodeL (fun k => D k ∨ w.heap.size ≤ k) w' l' (Nd.mk kd Nd.zero 0 0 ts) ∧ Ext w w' := by
 have hlen := hts.len
 have hts := hts.lt
 refine Calls.enter (args := [.int .u8 kd, .slice a ts.length cap]) Try.func19 rfl rfl rfl rfl ?_
 refine sq ?_
 refine WL.alloc rfl rfl Ty.zero30 rfl (fun b1 w6 hb2 hE5 hs3 hR4 => ?_)
 refine WL.dn ?_
 refine sq ?_
 refine mv ?_
 refine mv ?_
 refine WL.build (l := (zc kd 0 0 (.slice a ts.length cap))) rfl rfl Ty.zero30 Ty.st30 ⟨⟨rfl, rfl⟩, (by kernel_rfl)⟩ ?_
 have hn7 : NodeL _ w6 (zc kd 0 0 (.slice a ts.length cap)) (Nd.mk kd Nd.zero 0 0 ts) := NodeL.shut (k := kd) (s := Nd.zero) (mn := 0) (mx := 0) (sl := .slice a ts.length cap) (ts := ts) (hts.ext hE5)
 have hn7 := hn7.lt
 refine WL.store_box rfl rfl rfl hR4 Ty.agg30 rfl rfl (fun w10 hB9 hR8 => ?_)
 have hzhB9 := hB9.size
 refine WL.dn ?_
 refine WC.ret (fun a_ ha => ?_)
 exact bodyPost_cell (l := (zc kd 0 0 (.slice a ts.length cap))) rfl ha rfl Ty.agg30 hR8 ⟨_, rfl, (hn7.bu hB9).dom (by intro k h1; (try dsimp only at h1); (repeat' first | (guard_hyp h1 : _ ∨ _; refine Or.elim h1 (fun h1 => ?_) (fun h1 => ?_)) | (guard_hyp h1 : _ ∧ _; have hx := h1.2; replace h1 := h1.1)) <;> first | contradiction | exact .inl h1 | exact .inr (by omega)), (hB9.onto hE5 (by omega))⟩
set_option maxRecDepth 20000 in
set_option maxHeartbeats 4000000 in
theorem rep11_ok (D : Nat → Prop) (w : World) (l : List Value) (T : Nd) (mn mx : Int) (hT : NodeL D w l T) :
  Calls Try.prog 18 #[.agg l.toArray, .int .i64 mn, .int .i64 mx] w fun e w' => ∃ l', e = .returned (.agg l'.toArray) ∧ NodeL (fun k => D k ∨ w.heap.size ≤ k) w' l' (Nd.mk 5 Nd.zero mn mx [T]) ∧ Ext w w' := by
 have hT := hT.lt
 obtain ⟨a, cap, rfl, hts, hlen⟩ := hT.op2
 refine Calls.enter (args := [.agg (tcells T (.slice a T.subs.length cap)).toArray, .int .i64 mn, .int .i64 mx]) Try.func18 rfl rfl rfl rfl ?_
 refine sq ?_
 refine WL.box_agg rfl rfl rfl (fun b1 w6 hb2 hE5 hs3 hR4 => ?_)
 refine WL.alloc rfl rfl Ty.zero30 rfl (fun b7 w12 hb8 hE11 hs9 hR10 => ?_)
 refine WL.dn ?_
 refine sq ?_
 refine mv ?_
 refine mv ?_
 refine WL.load_box rfl rfl rfl (hR4.ext hE11) Ty.agg30 ?_
 have h13 := ((hT.ext hE5).ext hE11)
 refine WL.buildSlice (vs := [.agg (tcells T (.slice a T.subs.length cap)).toArray]) (cells := (tcells T (.slice a T.subs.length cap))) rfl rfl Ty.slice24 Ty.zero30 rfl rfl rfl rfl rfl rfl (fun b14 w19 hb15 hE18 hs16 hR17 => ?_)
 have hts14 := (NodesV.lit (n := 1) (ts := [T]) hR17 (RowsL.cons (h13.ext hE18) (RowsL.nil' _)) rfl rfl (by decide)).lt
 refine WL.build (l := (zc 5 mn mx (.slice (some ⟨b14, 0, none⟩) 1 1))) rfl rfl Ty.zero30 Ty.st30 ⟨⟨rfl, rfl⟩, (by kernel_rfl)⟩ ?_
 have hn20 : NodeL _ w19 (zc 5 mn mx (.slice (some ⟨b14, 0, none⟩) 1 1)) (Nd.mk 5 Nd.zero mn mx ([T])) := NodeL.shut (k := 5) (s := Nd.zero) (mn := mn) (mx := mx) (sl := .slice (some ⟨b14, 0, none⟩) 1 1) (ts := [T]) hts14
 have hn20 := hn20.lt
 refine WL.store_box rfl rfl rfl (hR10.ext hE18) Ty.agg30 rfl rfl (fun w23 hB22 hR21 => ?_)
 have hzhB22 := hB22.size
 refine WL.dn ?_
 refine WC.ret (fun a_ ha => ?_)
 exact bodyPost_cell (l := (zc 5 mn mx (.slice (some ⟨b14, 0, none⟩) 1 1))) rfl ha rfl Ty.agg30 hR21 ⟨_, rfl, (hn20.bu hB22).dom (by intro k h1; (try dsimp only at h1); (repeat' first | (guard_hyp h1 : _ ∨ _; refine Or.elim h1 (fun h1 => ?_) (fun h1 => ?_)) | (guard_hyp h1 : _ ∧ _; have hx := h1.2; replace h1 := h1.1)) <;> first | contradiction | exact .inl h1 | exact .inr (by omega)), (hB22.onto ((hE5.trans hE11).trans hE18) (by omega))⟩
end Go.Proofs.Yteenegaadlhjdaa
namespace Go.Proofs.Yteenegaadlhjdaa
open Go.RowKit Go.Lib
def ppair (D : Nat → Prop) (T U : Nd) : Post := fun v w β => ∃ l1 l2, v = .agg (l1 ++ l2).toArray ∧ NodeL (Off D w β) w l1 T ∧ NodeL (Off D w β) w l2 U
theorem KW_ppair (D : Nat → Prop) (T U : Nd) : KW (ppair D T U) := fun _ _ _ _ _ e h ⟨l1, l2, h1, h2, h3⟩ => ⟨l1, l2, h1, (h2.ext e).dom (Off.mono e h), (h3.ext e).dom (Off.mono e h)⟩
def pprs (D : Nat → Prop) (n : Nat) (ts : List Nd) : Post := fun v w β => ∃ b, v = .slice (some ⟨b, 0, none⟩) n n ∧ NodesV (Off D w β) w (.slice (some ⟨b, 0, none⟩) ts.length ts.length) ts
theorem KW_pprs (D : Nat → Prop) (n : Nat) (ts : List Nd) : KW (pprs D n ts) := fun _ _ _ _ _ e h ⟨b, h1, h2⟩ => ⟨b, h1, (h2.ext e).dom (Off.mono e h)⟩
theorem Reads.append {w : World} {b o : Nat} {l1 l2 : List Value} (h1 : Reads w b o l1) (h2 : Reads w b (o + l1.length) l2) : Reads w b o (l1 ++ l2) := by
  intro j v hj
  rcases Nat.lt_or_ge j l1.length with h | h
  · rw [List.getElem?_append_left h] at hj; exact h1 j v hj
  · rw [List.getElem?_append_right h] at hj
    have := h2 (j - l1.length) v hj
    rw [show o + l1.length + (j - l1.length) = o + j by omega] at this
    exact this
theorem NodesV.pair {D : Nat → Prop} {w : World} {b n cap i : Nat} {ts : List Nd} {T U : Nd} (h : NodesV D w (.slice (some ⟨b, 0, .none⟩) n cap) ts) (hT : ts[2 * i]? = some T) (hU : ts[2 * i + 1]? = some U) :
    ∃ l1 l2, D b ∧ Reads w b (0 + i * 16) (l1 ++ l2) ∧ NodeL D w l1 T ∧ NodeL D w l2 U := by
  obtain ⟨b1, o1, l1, e1, hD, r1, n1⟩ := h.at hT
  obtain ⟨b2, o2, l2, e2, _, r2, n2⟩ := h.at hU
  cases e1; cases e2
  refine ⟨l1, l2, hD, Reads.append ?_ ?_, n1, n2⟩
  · rw [show 0 + i * 16 = 0 + 2 * i * 8 by omega]; exact r1
  · rw [n1.length, show 0 + i * 16 + 8 = 0 + (2 * i + 1) * 8 by omega]; exact r2
end Go.Proofs.Yteenegaadlhjdaa
open Go.Proofs
namespace Go.Proofs.Yteenegaadlhjdaa
namespace Nd
def catN : Nat → Nd → Nd
  | 0, n => n
  | f + 1, n => bif (n.kind == 3) && n.nice then (match mstep n.subs with | .none => n | .some l => catN f (seq l)) else n
theorem catF_catN : ∀ (f : Nat) (n : Nd), n.size ≤ f → catF n = catN f n := by
  intro f
  induction f with
  | zero => intro n h; have := size_pos n; omega
  | succ f ih =>
    intro n h
    simp only [catN]
    cases hc : (n.kind == 3) && n.nice
    · rw [catF, dif_neg (fun hh => by rw [Bool.and_eq_false_iff] at hc; rcases hc with hc | hc; exact absurd hh.1 (beq_eq_false_iff_ne.1 hc); rw [hh.2] at hc; cases hc)]; rfl
    · simp only [Bool.and_eq_true, beq_iff_eq] at hc
      simp only [cond_true]
      cases hm : mstep n.subs with
      | none => rw [catF_none hm]
      | some l =>
        have h1 := mstep_sz (fun t ht => nice_subs hc.2 ht) hm
        have h2 := seq_sz l
        have h3 := size_subs n
        rw [catF_some hc.1 hc.2 hm, ih _ (by omega)]
def cat2 (l : List Nd) : Nd := catN (1 + sizeL l) (seq l)
theorem cat_cat2 (l : List Nd) : cat l = cat2 l := catF_catN _ _ (seq_sz l)
def normK2 (n : Nd) (l : List Nd) : Nd :=
  bif n.kind == 6 then capture (l[0]?.getD none) else bif n.kind == 5 then timesN (l[0]?.getD none) (bof n) else bif n.kind == 3 then cat2 l else bif n.kind == 4 then alt l else n
theorem normK_eq2 (n : Nd) (l : List Nd) : normK n l = normK2 n l := by unfold normK normK2; rw [cat_cat2]
mutual
def normE : Nd → Nd
  | mk k s mn mx ts => normK2 (mk k s mn mx ts) (normLE ts)
def normLE : List Nd → List Nd
  | [] => []
  | t :: ts => t.normE :: normLE ts
end
theorem norm_normE (t : Nd) : t.norm = t.normE := by
  induction t using Nd.ind with
  | h k s mn mx ts ih =>
    have : normL ts = normLE ts := by
      induction ts with
      | nil => rfl
      | cons x l ihl => simp only [normL, normLE, ih x (by simp), ihl (fun t ht => ih t (by simp [ht]))]
    rw [norm, normE, this, normK_eq2]
def pairB (T U : Nd) : Bool := T.clean && decide (T.size ≤ 1000) && T.sok && T.normE.same U && U.light
def pairsB : List Nd → Bool
  | T :: U :: r => pairB T U && pairsB r
  | [] => true
  | _ => false
theorem pairsB_at {l : List Nd} : ∀ {k : Nat} {T U : Nd}, pairsB l = true → l[2 * k]? = some T → l[2 * k + 1]? = some U → pairB T U = true := by
  have main : ∀ (n : Nat) (l : List Nd), l.length ≤ n → ∀ {k : Nat} {T U : Nd}, pairsB l = true → l[2 * k]? = some T → l[2 * k + 1]? = some U → pairB T U = true := by
    intro n
    induction n with
    | zero => intro l h k T U _ hT _; have : l = [] := List.eq_nil_of_length_eq_zero (by omega); subst this; simp at hT
    | succ n ih =>
      intro l h k T U hp hT hU
      match l, h, hp with
      | [], _, _ => simp at hT
      | [x], _, hp => simp [pairsB] at hp
      | x :: y :: r, h, hp =>
        simp only [pairsB, Bool.and_eq_true] at hp
        cases k with
        | zero => simp at hT hU; subst hT; subst hU; exact hp.1
        | succ k =>
          rw [show 2 * (k + 1) = 2 * k + 1 + 1 by omega] at hT
          rw [show 2 * (k + 1) + 1 = 2 * k + 1 + 1 + 1 by omega] at hU
          simp only [List.getElem?_cons_succ] at hT hU
          exact ih r (by simp at h; omega) hp.2 hT hU
  intro k T U
  exact main l.length l (Nat.le_refl _)
theorem pairB_all {T U : Nd} (h : pairB T U = true) : T.clean = true ∧ Fine T ∧ T.sok = true ∧ norm T = U ∧ (Nd.light (norm T) && Nd.light U && Nd.same (norm T) U) = true := by
  simp only [pairB, Bool.and_eq_true, decide_eq_true_eq] at h
  obtain ⟨⟨⟨⟨h1, h2⟩, h3⟩, h4⟩, h5⟩ := h
  have e : norm T = U := by rw [norm_normE]; exact (same_iff _ _).1 h4
  refine ⟨h1, ⟨((clean_iff T).1 h1).2, h2⟩, h3, e, ?_⟩
  rw [e, h5, (same_iff U U).2 rfl]; rfl
end Nd
end Go.Proofs.Yteenegaadlhjdaa
