/- The normal forms of what is put together of any two trees that Made makes: the law function RxnormParts returns true for every two slices of steps; no condition. -/
import Derived.Test.YteenegaadlhjdaaP5
import Derived.KernelRfl
import Derived.ProofKit
import Derived.Deep.Slices
import Derived.Carry
import Derived.Test.YteenegaadlhjdaaRows
set_option linter.all false
namespace Go.Proofs.Yteenegaadlhjdaa
open Go.Proofs Go.RowKit
theorem made_at {A : Nd} {xs : List (Int × Int × Int)} (h : A = Nd.made xs) (D : Nat → Prop) (w : World) (a : Option Addr) (cap : Nat) (hxs : SmallV D w (.slice a xs.length cap) xs) :
  Calls Try.prog 7 #[.slice a xs.length cap] w fun e w' => ∃ l', e = .returned (.agg l'.toArray) ∧ NodeL (fun k => w.heap.size ≤ k) w' l' A ∧ Ext w w' := by
 subst h; exact made_ok D w a cap xs hxs
set_option maxRecDepth 20000 in
set_option maxHeartbeats 4000000 in
theorem RxnormParts_ok (w : World) (Dxs : Nat → Prop) (axs : Option Addr) (capxs : Nat) (xs : List (Int × Int × Int)) (hxxs : SmallV Dxs w (.slice axs xs.length capxs) xs) (Dys : Nat → Prop) (ays : Option Addr) (capys : Nat) (ys : List (Int × Int × Int)) (hxys : SmallV Dys w (.slice ays ys.length capys) ys) :
  Calls Try.prog 4 #[.slice axs xs.length capxs, .slice ays ys.length capys] w fun e w' => e = .returned (.bool true) ∧ Ext w w' := by
 have hBxs : Nd.Bytes xs := fun q hq => by have := hxxs.2 q hq; omega
 obtain ⟨A, hA⟩ : ∃ T, T = Nd.made xs := ⟨_, rfl⟩
 have hmA : Nd.MadeOk A := hA ▸ Nd.made_ok' hBxs
 have hsA : Nd.Sm A := ⟨⟨hmA.nice, hA ▸ Nd.made_sok xs⟩, hmA.size⟩
 have hBys : Nd.Bytes ys := fun q hq => by have := hxys.2 q hq; omega
 obtain ⟨B, hB⟩ : ∃ T, T = Nd.made ys := ⟨_, rfl⟩
 have hmB : Nd.MadeOk B := hB ▸ Nd.made_ok' hBys
 have hsB : Nd.Sm B := ⟨⟨hmB.nice, hB ▸ Nd.made_sok ys⟩, hmB.size⟩
 have haA := Nd.r_cap hsA
 have hbA := hsA.norm
 have hgA := Nd.r_norm6 hsA
 have haB := Nd.r_cap hsB
 have hbB := hsB.norm
 have hgB := Nd.r_norm6 hsB
 refine Calls.enter (args := [.slice axs xs.length capxs, .slice ays ys.length capys]) Try.func4 rfl rfl rfl rfl ?_
 refine WC.seqk ?_
 refine WC.region ?_
 refine WL.assign rfl rfl rfl ?_
 refine WL.dn ?_
 refine WC.seqk ?_
 refine WC.seqk ?_
 refine WC.region ?_
 refine WL.call rfl rfl rfl Ty.ent6 (awake11_ok _) ?_
 rintro _ w3 ⟨rfl, hE2⟩
 have hzhE2 := hE2.size
 refine ⟨_, rfl, ?_⟩
 refine WL.not rfl rfl rfl ?_
 refine WL.dn ?_
 refine WC.cond_f rfl ?_
 refine WC.sk ?_
 refine WC.seqk ?_
 refine WC.region ?_
 refine WL.move rfl rfl rfl ?_
 refine WL.call rfl rfl rfl Ty.ent7 (made_at hA _ _ _ _ (hxxs.ext hE2)) ?_
 rintro _ w6 ⟨l4, rfl, hr4, hE5⟩
 have hzhE5 := hE5.size
 refine ⟨_, rfl, ?_⟩
 have hn4 := hr4.lt
 obtain ⟨a4, cap4, rfl, hts4, hlen4⟩ := hn4.op2
 refine WL.move rfl rfl rfl ?_
 refine WL.call rfl rfl rfl Ty.ent7 (made_at hB _ _ _ _ (hxys.ext (hE2.trans hE5))) ?_
 rintro _ w9 ⟨l7, rfl, hr7, hE8⟩
 have hzhE8 := hE8.size
 refine ⟨_, rfl, ?_⟩
 have hn7 := hr7.lt
 obtain ⟨a7, cap7, rfl, hts7, hlen7⟩ := hn7.op2
 refine WL.alloc rfl rfl Ty.zero30 rfl (fun b10 w15 hb11 hE14 hs12 hR13 => ?_)
 refine WL.alloc rfl rfl Ty.zero30 rfl (fun b16 w21 hb17 hE20 hs18 hR19 => ?_)
 refine WL.store_box rfl rfl rfl (hR13.ext hE20) Ty.agg30 rfl rfl (fun w24 hB23 hR22 => ?_)
 have hzhB23 := hB23.size
 refine WL.store_box rfl rfl rfl (hB23.row hR19 (by omega)) Ty.agg30 rfl rfl (fun w27 hB26 hR25 => ?_)
 have hzhB26 := hB26.size
 refine WL.dn ?_
 refine WC.seqk ?_
 refine WC.weaken (r' := [(4, .bool false), (22, .bool false), (5, pt b10 0), (6, pt b16 0)]) (sr rfl (sr rfl (sr rfl (sr rfl (subReg_nil _))))) ?_
 refine WC.region ?_
 refine WL.load_box rfl rfl rfl (hB26.row hR22 (by omega)) Ty.agg30 ?_
 have h29 := (((((hn4.ext hE8).ext hE14).ext hE20).bu hB23).bu hB26)
 refine WL.call rfl rfl rfl Ty.ent9 (Norm_okC h29 hsA.fine.clean hsA.fine hsA.ok.2) ?_
 rintro _ w31 ⟨l28, rfl, hr28, hE30⟩
 have hzhE30 := hE30.size
 refine ⟨_, rfl, ?_⟩
 rw [show Nd.norm A = Nd.norm A from rfl] at hr28
 have hn28 := hr28.lt
 obtain ⟨a28, cap28, rfl, hts28, hlen28⟩ := hn28.op2
 refine WL.move rfl rfl rfl ?_
 refine WL.extract rfl rfl rfl rfl ?_
 refine WL.extract rfl rfl rfl rfl ?_
 refine WL.alloc rfl rfl Ty.zero30 rfl (fun b32 w37 hb33 hE36 hs34 hR35 => ?_)
 refine WL.store_box rfl rfl rfl hR35 Ty.agg30 rfl rfl (fun w40 hB39 hR38 => ?_)
 have hzhB39 := hB39.size
 refine WL.assign rfl rfl rfl ?_
 refine WL.dn ?_
 refine WC.seqk ?_
 refine WC.region ?_
 have h41 := (hB39.row ((hR25.ext hE30).ext hE36) (by omega))
 refine WL.load_box rfl rfl rfl h41 Ty.agg30 ?_
 have h43 := (((((((hn7.ext hE14).ext hE20).bu hB23).bu hB26).ext hE30).ext hE36).bu hB39)
 refine WL.call rfl rfl rfl Ty.ent9 (Norm_okC h43 hsB.fine.clean hsB.fine hsB.ok.2) ?_
 rintro _ w45 ⟨l42, rfl, hr42, hE44⟩
 have hzhE44 := hE44.size
 refine ⟨_, rfl, ?_⟩
 rw [show Nd.norm B = Nd.norm B from rfl] at hr42
 have hn42 := hr42.lt
 obtain ⟨a42, cap42, rfl, hts42, hlen42⟩ := hn42.op2
 refine WL.move rfl rfl rfl ?_
 refine WL.extract rfl rfl rfl rfl ?_
 refine WL.extract rfl rfl rfl rfl ?_
 refine WL.alloc rfl rfl Ty.zero30 rfl (fun b46 w51 hb47 hE50 hs48 hR49 => ?_)
 refine WL.store_box rfl rfl rfl hR49 Ty.agg30 rfl rfl (fun w54 hB53 hR52 => ?_)
 have hzhB53 := hB53.size
 refine WL.assign rfl rfl rfl ?_
 refine WL.dn ?_
 refine WC.seqk ?_
 refine WC.weaken (r' := [(4, .bool false), (22, .bool false), (5, pt b10 0), (6, pt b16 0), (7, pt b32 0), (8, .int .i64 0), (9, pt b46 0), (10, .int .i64 0)]) (sr rfl (sr rfl (sr rfl (sr rfl (sr rfl (sr rfl (sr rfl (sr rfl (subReg_nil _))))))))) ?_
 refine WC.region ?_
 have h55 := (hB53.row (((hB39.row (((hB26.row hR22 (by omega)).ext hE30).ext hE36) (by omega)).ext hE44).ext hE50) (by omega))
 refine WL.load_box rfl rfl rfl h55 Ty.agg30 ?_
 have h56 := ((((((h29.ext hE30).ext hE36).bu hB39).ext hE44).ext hE50).bu hB53)
 refine WL.call rfl rfl rfl Ty.ent13 (capture_ok _ _ _ A h56) ?_
 rintro _ w59 ⟨l57, rfl, hr57, hE58⟩
 have hzhE58 := hE58.size
 refine ⟨_, rfl, ?_⟩
 rw [Nd.r_cap hsA] at hr57
 have hn57 := hr57.lt
 obtain ⟨a57, cap57, rfl, hts57, hlen57⟩ := hn57.op2
 refine WL.call rfl rfl rfl Ty.ent9 (Norm_okC hn57 (Nd.r_ok6 hsA).1.clean (Nd.r_ok6 hsA).1 (Nd.r_ok6 hsA).2) ?_
 rintro _ w62 ⟨l60, rfl, hr60, hE61⟩
 have hzhE61 := hE61.size
 refine ⟨_, rfl, ?_⟩
 rw [Nd.r_norm6 hsA] at hr60
 have hn60 := hr60.lt
 obtain ⟨a60, cap60, rfl, hts60, hlen60⟩ := hn60.op2
 refine WL.move rfl rfl rfl ?_
 refine WL.extract rfl rfl rfl rfl ?_
 refine WL.extract rfl rfl rfl rfl ?_
 refine WL.alloc rfl rfl Ty.zero30 rfl (fun b63 w68 hb64 hE67 hs65 hR66 => ?_)
 refine WL.store_box rfl rfl rfl hR66 Ty.agg30 rfl rfl (fun w71 hB70 hR69 => ?_)
 have hzhB70 := hB70.size
 refine WL.assign rfl rfl rfl ?_
 refine WL.dn ?_
 refine WC.seqk ?_
 refine WC.seqk ?_
 have h72 := ((((h56.ext hE58).ext hE61).ext hE67).bu hB70)
 have h73 := (((hn57.ext hE61).ext hE67).bu hB70)
 have h74 := ((hn60.ext hE67).bu hB70)
 have h75 := (hB70.row (((h55.ext hE58).ext hE61).ext hE67) (by omega))
 have h76 := (hB70.row ((((hB53.row ((h41.ext hE44).ext hE50) (by omega)).ext hE58).ext hE61).ext hE67) (by omega))
 have h77 := (((((((h43.ext hE44).ext hE50).bu hB53).ext hE58).ext hE61).ext hE67).bu hB70)
 have h78 := (hB70.row ((((hB53.row ((hR38.ext hE44).ext hE50) (by omega)).ext hE58).ext hE61).ext hE67) (by omega))
 have h79 := (((((((((hn28.ext hE36).bu hB39).ext hE44).ext hE50).bu hB53).ext hE58).ext hE61).ext hE67).bu hB70)
 have h80 := (hB70.row (((hR52.ext hE58).ext hE61).ext hE67) (by omega))
 have h81 := ((((((hn42.ext hE50).bu hB53).ext hE58).ext hE61).ext hE67).bu hB70)
 refine WC.weaken (r' := [(4, .bool false), (22, .bool false), (5, pt b10 0), (6, pt b16 0), (7, pt b32 0), (8, .int .i64 0), (9, pt b46 0), (10, .int .i64 0), (11, pt b63 0), (12, .int .i64 0)]) (sr rfl (sr rfl (sr rfl (sr rfl (sr rfl (sr rfl (sr rfl (sr rfl (sr rfl (sr rfl (subReg_nil _))))))))))) ?_
 refine WC.draw 24 [43, 44, 45, 46, 47, 48, 49, 50, 51, 52, 53, 54, 55, 56, 57, 58, 59, 60, 61, 62, 63, 64, 65, 66] [pc (.int .i64 0), pc (.int .i64 0), pc (.int .i64 0), pc (.int .i64 0), pc (.int .i64 0), pc (.bool false), pc (.bool false), pc (.agg (tcells (Nd.G1 (Nd.norm A)) (.slice a60 (Nd.G1 (Nd.norm A)).subs.length cap60)).toArray), pc (.agg (tcells (Nd.norm A) (.slice a28 (Nd.norm A).subs.length cap28)).toArray), pnode (fun k => w71.heap.size ≤ k) (Nd.G1 (Nd.norm A)), pc (.bool true), pc (.bool false), pc (.bool false), pc (.bool false), pc (.agg (tcells (Nd.G1 (Nd.norm A)) (.slice a60 (Nd.G1 (Nd.norm A)).subs.length cap60)).toArray), pc (.bool false), pc (.bool false), pc (.bool false), pc (.agg (tcells (Nd.G1 (Nd.norm A)) (.slice a60 (Nd.G1 (Nd.norm A)).subs.length cap60)).toArray), pc (.bool (Nd.clean (Nd.G1 (Nd.norm A)) && Nd.nullable (Nd.G1 (Nd.norm A)))), pc (.agg (tcells A (.slice a4 A.subs.length cap4)).toArray), pc (.bool (Nd.clean A && Nd.nullable A)), pc (.bool false), pc (.bool false)] (by kernel_rfl) (by kernel_rfl) ⟨KW_pc _, KW_pc _, KW_pc _, KW_pc _, KW_pc _, KW_pc _, KW_pc _, KW_pc _, KW_pc _, KW_pnode _ _, KW_pc _, KW_pc _, KW_pc _, KW_pc _, KW_pc _, KW_pc _, KW_pc _, KW_pc _, KW_pc _, KW_pc _, KW_pc _, KW_pc _, KW_pc _, KW_pc _, trivial⟩ rfl rfl rfl (sc ?_ (sc ?_ (sc ?_ (sc ?_ (sc ?_ (sc ?_ (sc ?_ (sc ?_ (sc ?_ (sc ?_ (sc ?_ (sc ?_ (sc ?_ (sc ?_ (sc ?_ (sc ?_ (sc ?_ (sc ?_ (sc ?_ (sc ?_ (sc ?_ (sc ?_ (sc ?_ (sc ?_ (StepsOn.nil _))))))))))))))))))))))))) ?_
 ·intro σ β w1 hE1 hbi hk
  have hz1 := hE1.size
  refine ⟨[], (agree_nil _), ?_⟩
  refine WL.move rfl rfl rfl ?_
  exact dq hbi rfl
 ·intro σ β w1 hE1 hbi hk
  have hz1 := hE1.size
  refine ⟨[], (agree_nil _), ?_⟩
  refine WL.move rfl rfl rfl ?_
  exact dq hbi rfl
 ·intro σ β w1 hE1 hbi hk
  have hz1 := hE1.size
  obtain ⟨_, hv102, rfl⟩ := kn hk 0 rfl rfl
  obtain ⟨_, hv103, rfl⟩ := kn hk 1 rfl rfl
  refine ⟨[(43, .int .i64 0), (44, .int .i64 0)], (ag hv102 (ag hv103 (agree_nil _))), ?_⟩
  refine WL.add (v := 0) rfl rfl rfl rfl (by decide) ?_
  exact dq hbi rfl
 ·intro σ β w1 hE1 hbi hk
  have hz1 := hE1.size
  refine ⟨[], (agree_nil _), ?_⟩
  refine WL.move rfl rfl rfl ?_
  exact dq hbi rfl
 ·intro σ β w1 hE1 hbi hk
  have hz1 := hE1.size
  obtain ⟨_, hv102, rfl⟩ := kn hk 2 rfl rfl
  obtain ⟨_, hv103, rfl⟩ := kn hk 3 rfl rfl
  refine ⟨[(45, .int .i64 0), (46, .int .i64 0)], (ag hv102 (ag hv103 (agree_nil _))), ?_⟩
  refine WL.add (v := 0) rfl rfl rfl rfl (by decide) ?_
  exact dq hbi rfl
 ·intro σ β w1 hE1 hbi hk
  have hz1 := hE1.size
  obtain ⟨_, hv102, rfl⟩ := kn hk 4 rfl rfl
  refine ⟨[(47, .int .i64 0)], (ag hv102 (agree_nil _)), ?_⟩
  refine WL.neq rfl rfl rfl rfl rfl ?_
  exact dq hbi rfl
 ·intro σ β w1 hE1 hbi hk
  have hz1 := hE1.size
  obtain ⟨_, hv102, rfl⟩ := kn hk 5 rfl rfl
  refine ⟨[(48, .bool false)], (ag hv102 (agree_nil _)), ?_⟩
  refine WL.move rfl rfl rfl ?_
  exact dq hbi rfl
 ·intro σ β w1 hE1 hbi hk
  have hz1 := hE1.size
  obtain ⟨_, hv102, rfl⟩ := kn hk 6 rfl rfl
  refine ⟨[(49, .bool false)], (ag hv102 (agree_nil _)), ?_⟩
  refine WL.load_box rfl rfl rfl (hR69.ext hE1) Ty.agg30 ?_
  exact dq hbi rfl
 ·intro σ β w1 hE1 hbi hk
  have hz1 := hE1.size
  obtain ⟨_, hv102, rfl⟩ := kn hk 6 rfl rfl
  refine ⟨[(49, .bool false)], (ag hv102 (agree_nil _)), ?_⟩
  refine WL.load_box rfl rfl rfl (h78.ext hE1) Ty.agg30 ?_
  exact dq hbi rfl
 ·intro σ β w1 hE1 hbi hk
  have hz1 := hE1.size
  obtain ⟨_, hv102, rfl⟩ := kn hk 6 rfl rfl
  obtain ⟨_, hv103, rfl⟩ := kn hk 8 rfl rfl
  refine ⟨[(49, .bool false), (51, .agg (tcells (Nd.norm A) (.slice a28 (Nd.norm A).subs.length cap28)).toArray)], (ag hv102 (ag hv103 (agree_nil _))), ?_⟩
  refine WL.call rfl rfl rfl Ty.ent13 (capture_ok _ _ _ (Nd.norm A) (h79.ext hE1)) ?_
  rintro _ w106 ⟨l104, rfl, hr104, hE105⟩
  have hzhE105 := hE105.size
  refine ⟨_, rfl, ?_⟩
  rw [Nd.r_cap hsA.norm] at hr104
  have hn104 := hr104.lt
  obtain ⟨a104, cap104, rfl, hts104, hlen104⟩ := hn104.op2
  exact dqE hbi hE105 ⟨_, rfl, (hr104.off0 hbi (fun k hk => Nat.le_trans hE1.size hk))⟩
 ·intro σ β w1 hE1 hbi hk
  have hz1 := hE1.size
  obtain ⟨_, hv102, rfl⟩ := kn hk 6 rfl rfl
  obtain ⟨_, hv103, rfl⟩ := kn hk 7 rfl rfl
  obtain ⟨_, hv104, l104, rfl, hn104⟩ := kn hk 9 rfl rfl
  have hn104 := hn104.lt
  obtain ⟨a104, cap104, rfl, hts104, hlen104⟩ := hn104.op2
  refine ⟨[(49, .bool false), (50, .agg (tcells (Nd.G1 (Nd.norm A)) (.slice a60 (Nd.G1 (Nd.norm A)).subs.length cap60)).toArray), (52, .agg (tcells (Nd.G1 (Nd.norm A)) (.slice a104 (Nd.G1 (Nd.norm A)).subs.length cap104)).toArray)], (ag hv102 (ag hv103 (ag hv104 (agree_nil _)))), ?_⟩
  refine WL.call rfl rfl rfl Ty.ent11 (Same_ok _ _ _ _ _ (Nd.G1 (Nd.norm A)) (Nd.G1 (Nd.norm A)) (h74.ext hE1) hn104) ?_
  rintro _ w106 ⟨he, hE105⟩
  have hq : (Nd.light (Nd.G1 (Nd.norm A)) && Nd.light (Nd.G1 (Nd.norm A)) && Nd.same (Nd.G1 (Nd.norm A)) (Nd.G1 (Nd.norm A))) = true := (Nd.Same_self (Nd.r_ok6 hsA.norm).1.light)
  rw [hq] at he
  subst he
  clear hq
  have hzhE105 := hE105.size
  refine ⟨_, rfl, ?_⟩
  exact dqE hbi hE105 rfl
 ·intro σ β w1 hE1 hbi hk
  have hz1 := hE1.size
  obtain ⟨_, hv102, rfl⟩ := kn hk 6 rfl rfl
  obtain ⟨_, hv103, rfl⟩ := kn hk 10 rfl rfl
  refine ⟨[(49, .bool false), (53, .bool true)], (ag hv102 (ag hv103 (agree_nil _))), ?_⟩
  refine WL.not rfl rfl rfl ?_
  exact dq hbi rfl
 ·intro σ β w1 hE1 hbi hk
  have hz1 := hE1.size
  obtain ⟨_, hv102, rfl⟩ := kn hk 6 rfl rfl
  obtain ⟨_, hv103, rfl⟩ := kn hk 11 rfl rfl
  refine ⟨[(49, .bool false), (54, .bool false)], (ag hv102 (ag hv103 (agree_nil _))), ?_⟩
  refine WL.pick_f rfl rfl rfl rfl ?_
  exact dq hbi rfl
 ·intro σ β w1 hE1 hbi hk
  have hz1 := hE1.size
  obtain ⟨_, hv102, rfl⟩ := kn hk 12 rfl rfl
  refine ⟨[(55, .bool false)], (ag hv102 (agree_nil _)), ?_⟩
  refine WL.move rfl rfl rfl ?_
  exact dq hbi rfl
 ·intro σ β w1 hE1 hbi hk
  have hz1 := hE1.size
  obtain ⟨_, hv102, rfl⟩ := kn hk 13 rfl rfl
  refine ⟨[(56, .bool false)], (ag hv102 (agree_nil _)), ?_⟩
  refine WL.load_box rfl rfl rfl (hR69.ext hE1) Ty.agg30 ?_
  exact dq hbi rfl
 ·intro σ β w1 hE1 hbi hk
  have hz1 := hE1.size
  obtain ⟨_, hv102, rfl⟩ := kn hk 13 rfl rfl
  obtain ⟨_, hv103, rfl⟩ := kn hk 14 rfl rfl
  refine ⟨[(56, .bool false), (57, .agg (tcells (Nd.G1 (Nd.norm A)) (.slice a60 (Nd.G1 (Nd.norm A)).subs.length cap60)).toArray)], (ag hv102 (ag hv103 (agree_nil _))), ?_⟩
  refine WL.call rfl rfl rfl Ty.ent8 (Plain_ok _ _ _ (Nd.G1 (Nd.norm A)) (h74.ext hE1)) ?_
  rintro _ w105 ⟨he, hE104⟩
  have hq : (Nd.clean (Nd.G1 (Nd.norm A)) && Nd.plain (Nd.G1 (Nd.norm A))) = false := (Nd.r_plain _)
  rw [hq] at he
  subst he
  clear hq
  have hzhE104 := hE104.size
  refine ⟨_, rfl, ?_⟩
  exact dqE hbi hE104 rfl
 ·intro σ β w1 hE1 hbi hk
  have hz1 := hE1.size
  obtain ⟨_, hv102, rfl⟩ := kn hk 13 rfl rfl
  obtain ⟨_, hv103, rfl⟩ := kn hk 15 rfl rfl
  refine ⟨[(56, .bool false), (58, .bool false)], (ag hv102 (ag hv103 (agree_nil _))), ?_⟩
  refine WL.pick_f rfl rfl rfl rfl ?_
  exact dq hbi rfl
 ·intro σ β w1 hE1 hbi hk
  have hz1 := hE1.size
  obtain ⟨_, hv102, rfl⟩ := kn hk 16 rfl rfl
  refine ⟨[(59, .bool false)], (ag hv102 (agree_nil _)), ?_⟩
  refine WL.move rfl rfl rfl ?_
  exact dq hbi rfl
 ·intro σ β w1 hE1 hbi hk
  have hz1 := hE1.size
  obtain ⟨_, hv102, rfl⟩ := kn hk 17 rfl rfl
  refine ⟨[(60, .bool false)], (ag hv102 (agree_nil _)), ?_⟩
  refine WL.load_box rfl rfl rfl (hR69.ext hE1) Ty.agg30 ?_
  exact dq hbi rfl
 ·intro σ β w1 hE1 hbi hk
  have hz1 := hE1.size
  obtain ⟨_, hv102, rfl⟩ := kn hk 17 rfl rfl
  obtain ⟨_, hv103, rfl⟩ := kn hk 18 rfl rfl
  refine ⟨[(60, .bool false), (61, .agg (tcells (Nd.G1 (Nd.norm A)) (.slice a60 (Nd.G1 (Nd.norm A)).subs.length cap60)).toArray)], (ag hv102 (ag hv103 (agree_nil _))), ?_⟩
  refine WL.call rfl rfl rfl Ty.ent14 (Nullable_ok _ _ _ (Nd.G1 (Nd.norm A)) (h74.ext hE1)) ?_
  rintro _ w105 ⟨rfl, hE104⟩
  have hzhE104 := hE104.size
  refine ⟨_, rfl, ?_⟩
  exact dqE hbi hE104 rfl
 ·intro σ β w1 hE1 hbi hk
  have hz1 := hE1.size
  obtain ⟨_, hv102, rfl⟩ := kn hk 17 rfl rfl
  refine ⟨[(60, .bool false)], (ag hv102 (agree_nil _)), ?_⟩
  refine WL.load_box rfl rfl rfl (h75.ext hE1) Ty.agg30 ?_
  exact dq hbi rfl
 ·intro σ β w1 hE1 hbi hk
  have hz1 := hE1.size
  obtain ⟨_, hv102, rfl⟩ := kn hk 17 rfl rfl
  obtain ⟨_, hv103, rfl⟩ := kn hk 20 rfl rfl
  refine ⟨[(60, .bool false), (63, .agg (tcells A (.slice a4 A.subs.length cap4)).toArray)], (ag hv102 (ag hv103 (agree_nil _))), ?_⟩
  refine WL.call rfl rfl rfl Ty.ent14 (Nullable_ok _ _ _ A (h72.ext hE1)) ?_
  rintro _ w105 ⟨rfl, hE104⟩
  have hzhE104 := hE104.size
  refine ⟨_, rfl, ?_⟩
  exact dqE hbi hE104 rfl
 ·intro σ β w1 hE1 hbi hk
  have hz1 := hE1.size
  obtain ⟨_, hv102, rfl⟩ := kn hk 17 rfl rfl
  obtain ⟨_, hv103, rfl⟩ := kn hk 19 rfl rfl
  obtain ⟨_, hv104, rfl⟩ := kn hk 21 rfl rfl
  refine ⟨[(60, .bool false), (62, .bool (Nd.clean (Nd.G1 (Nd.norm A)) && Nd.nullable (Nd.G1 (Nd.norm A)))), (64, .bool (Nd.clean A && Nd.nullable A))], (ag hv102 (ag hv103 (ag hv104 (agree_nil _)))), ?_⟩
  refine WL.neqB (b := false) rfl rfl Try.underlying4 rfl rfl (Nd.r_t1 hsA) ?_
  exact dq hbi rfl
 ·intro σ β w1 hE1 hbi hk
  have hz1 := hE1.size
  obtain ⟨_, hv102, rfl⟩ := kn hk 17 rfl rfl
  obtain ⟨_, hv103, rfl⟩ := kn hk 22 rfl rfl
  refine ⟨[(60, .bool false), (65, .bool false)], (ag hv102 (ag hv103 (agree_nil _))), ?_⟩
  refine WL.pick_f rfl rfl rfl rfl ?_
  exact dq hbi rfl
 intro σ β w82 hE82 hbi82 hk
 have hz82 := hE82.size
 have hbi := hbi82
 obtain ⟨_, hv83, rfl⟩ := hk 23 (by decide) _ _ rfl rfl
 refine WL.know [(66, .bool false)] (ag hv83 (agree_nil _)) ?_
 refine WL.dn ?_
 refine WC.cond_f rfl ?_
 refine WC.sk ?_
 refine WC.seqk ?_
 refine WC.weaken (r' := [(4, .bool false), (22, .bool false), (5, pt b10 0), (6, pt b16 0), (7, pt b32 0), (9, pt b46 0), (66, .bool false)]) (sr rfl (sr rfl (sr rfl (sr rfl (sr rfl (sr rfl (sr rfl (subReg_nil _)))))))) ?_
 refine WC.draw 6 [67, 68, 69, 70, 13, 14] [pc (.agg (tcells A (.slice a4 A.subs.length cap4)).toArray), pnode (fun k => w82.heap.size ≤ k) (Nd.G1 A), pc (.agg (tcells B (.slice a7 B.subs.length cap7)).toArray), pnode (fun k => w82.heap.size ≤ k) (Nd.G1 B), palloc 13 (zc 0 0 0 (.slice none 0 0)) 30, palloc 14 (zc 0 0 0 (.slice none 0 0)) 30] (by kernel_rfl) (by kernel_rfl) ⟨KW_pc _, KW_pnode _ _, KW_pc _, KW_pnode _ _, KW_palloc _ _ _, KW_palloc _ _ _, trivial⟩ rfl rfl rfl (sc ?_ (sc ?_ (sc ?_ (sc ?_ (sc ?_ (sc ?_ (StepsOn.nil _))))))) ?_
 ·intro σ β w1 hE1 hbi hk
  have hz1 := hE1.size
  refine ⟨[], (agree_nil _), ?_⟩
  have h104 := ((h75.ext hE82).ext hE1)
  refine WL.load_box rfl rfl rfl h104 Ty.agg30 ?_
  exact dq hbi rfl
 ·intro σ β w1 hE1 hbi hk
  have hz1 := hE1.size
  obtain ⟨_, hv104, rfl⟩ := kn hk 0 rfl rfl
  refine ⟨[(67, .agg (tcells A (.slice a4 A.subs.length cap4)).toArray)], (ag hv104 (agree_nil _)), ?_⟩
  have h105 := ((h72.ext hE82).ext hE1)
  refine WL.call rfl rfl rfl Ty.ent13 (capture_ok _ _ _ A h105) ?_
  rintro _ w108 ⟨l106, rfl, hr106, hE107⟩
  have hzhE107 := hE107.size
  refine ⟨_, rfl, ?_⟩
  rw [Nd.r_cap hsA] at hr106
  have hn106 := hr106.lt
  obtain ⟨a106, cap106, rfl, hts106, hlen106⟩ := hn106.op2
  exact dqE hbi hE107 ⟨_, rfl, (hr106.off0 hbi (fun k hk => Nat.le_trans hE1.size hk))⟩
 ·intro σ β w1 hE1 hbi hk
  have hz1 := hE1.size
  refine ⟨[], (agree_nil _), ?_⟩
  have h104 := ((h76.ext hE82).ext hE1)
  refine WL.load_box rfl rfl rfl h104 Ty.agg30 ?_
  exact dq hbi rfl
 ·intro σ β w1 hE1 hbi hk
  have hz1 := hE1.size
  obtain ⟨_, hv104, rfl⟩ := kn hk 2 rfl rfl
  refine ⟨[(69, .agg (tcells B (.slice a7 B.subs.length cap7)).toArray)], (ag hv104 (agree_nil _)), ?_⟩
  have h105 := ((h77.ext hE82).ext hE1)
  refine WL.call rfl rfl rfl Ty.ent13 (capture_ok _ _ _ B h105) ?_
  rintro _ w108 ⟨l106, rfl, hr106, hE107⟩
  have hzhE107 := hE107.size
  refine ⟨_, rfl, ?_⟩
  rw [Nd.r_cap hsB] at hr106
  have hn106 := hr106.lt
  obtain ⟨a106, cap106, rfl, hts106, hlen106⟩ := hn106.op2
  exact dqE hbi hE107 ⟨_, rfl, (hr106.off0 hbi (fun k hk => Nat.le_trans hE1.size hk))⟩
 ·intro σ β w1 hE1 hbi hk
  have hz1 := hE1.size
  refine ⟨[], (agree_nil _), ?_⟩
  refine WL.alloc rfl rfl Ty.zero30 rfl (fun b104 w109 hb105 hE108 hs106 hR107 => ?_)
  refine WL.nil (fun a_ ha => ?_)
  exact ⟨_, (13, b104) :: β, ha, hE108, BExt.cons (Nat.le_of_eq hb105.symm), hbi.cons hE108 hE1.size (Nat.le_of_eq hb105.symm) hR107.lt, b104, rfl, hR107, .head _⟩
 ·intro σ β w1 hE1 hbi hk
  have hz1 := hE1.size
  refine ⟨[], (agree_nil _), ?_⟩
  refine WL.alloc rfl rfl Ty.zero30 rfl (fun b104 w109 hb105 hE108 hs106 hR107 => ?_)
  refine WL.nil (fun a_ ha => ?_)
  exact ⟨_, (14, b104) :: β, ha, hE108, BExt.cons (Nat.le_of_eq hb105.symm), hbi.cons hE108 hE1.size (Nat.le_of_eq hb105.symm) hR107.lt, b104, rfl, hR107, .head _⟩
 intro σ β w84 hE84 hbi84 hk
 have hz84 := hE84.size
 have hbi := hbi84
 obtain ⟨_, hv85, b85, rfl, hR85, hm85⟩ := hk 4 (by decide) _ _ rfl rfl
 have hlo85 := hbi.lo _ hm85
 have hhi85 := hbi.hi _ hm85
 obtain ⟨_, hv86, b86, rfl, hR86, hm86⟩ := hk 5 (by decide) _ _ rfl rfl
 have hlo86 := hbi.lo _ hm86
 have hhi86 := hbi.hi _ hm86
 have hne86_85 : b86 ≠ b85 := fun h => by have := hbi.one _ _ hm86 hm85 h; simp at this
 have hne85_86 := hne86_85.symm
 obtain ⟨_, hv87, l87, rfl, hn87⟩ := hk 1 (by decide) _ _ rfl rfl
 have hn87 := hn87.dom (D' := fun k => ((w82.heap.size ≤ k) ∧ b85 ≠ k ∧ b86 ≠ k) ∧ k < w84.heap.size) (fun k h => ⟨⟨h.1, h.2.1 _ hm85, h.2.1 _ hm86⟩, h.2.2⟩)
 obtain ⟨a87, cap87, rfl, hts87, hlen87⟩ := hn87.op2
 obtain ⟨_, hv88, l88, rfl, hn88⟩ := hk 3 (by decide) _ _ rfl rfl
 have hn88 := hn88.dom (D' := fun k => ((w82.heap.size ≤ k) ∧ b85 ≠ k ∧ b86 ≠ k) ∧ k < w84.heap.size) (fun k h => ⟨⟨h.1, h.2.1 _ hm85, h.2.1 _ hm86⟩, h.2.2⟩)
 obtain ⟨a88, cap88, rfl, hts88, hlen88⟩ := hn88.op2
 refine WL.know [(13, pt b85 0), (14, pt b86 0), (68, .agg (tcells (Nd.G1 A) (.slice a87 (Nd.G1 A).subs.length cap87)).toArray), (70, .agg (tcells (Nd.G1 B) (.slice a88 (Nd.G1 B).subs.length cap88)).toArray)] (ag hv85 (ag hv86 (ag hv87 (ag hv88 (agree_nil _))))) ?_
 refine WL.store_box rfl rfl rfl hR85 Ty.agg30 rfl rfl (fun w91 hB90 hR89 => ?_)
 have hzhB90 := hB90.size
 refine WL.store_box rfl rfl rfl (hB90.row hR86 (by omega)) Ty.agg30 rfl rfl (fun w94 hB93 hR92 => ?_)
 have hzhB93 := hB93.size
 refine WL.dn ?_
 refine WC.seqk ?_
 refine WC.region ?_
 refine WL.load_box rfl rfl rfl (hB93.row hR89 (by omega)) Ty.agg30 ?_
 refine WL.load_box rfl rfl rfl hR92 Ty.agg30 ?_
 refine WL.load_box rfl rfl rfl (hB93.row hR89 (by omega)) Ty.agg30 ?_
 have h95 := ((hn87.bu hB90).bu hB93)
 have h96 := ((hn88.bu hB90).bu hB93)
 refine WL.buildSlice (vs := [.agg (tcells (Nd.G1 A) (.slice a87 (Nd.G1 A).subs.length cap87)).toArray, .agg (tcells (Nd.G1 B) (.slice a88 (Nd.G1 B).subs.length cap88)).toArray, .agg (tcells (Nd.G1 A) (.slice a87 (Nd.G1 A).subs.length cap87)).toArray]) (cells := (tcells (Nd.G1 A) (.slice a87 (Nd.G1 A).subs.length cap87) ++ tcells (Nd.G1 B) (.slice a88 (Nd.G1 B).subs.length cap88) ++ tcells (Nd.G1 A) (.slice a87 (Nd.G1 A).subs.length cap87))) rfl rfl Ty.slice24 Ty.zero30 rfl rfl rfl rfl rfl rfl (fun b97 w102 hb98 hE101 hs99 hR100 => ?_)
 have hts97 := (NodesV.lit (n := 3) (ts := [(Nd.G1 A), (Nd.G1 B), (Nd.G1 A)]) hR100 (RowsL.cons (h95.ext hE101) (RowsL.cons (h96.ext hE101) (RowsL.cons (h95.ext hE101) (RowsL.nil' _)))) rfl rfl (by decide)).lt
 refine WL.call rfl rfl rfl Ty.ent10 (or_ok _ _ _ _ ([(Nd.G1 A), (Nd.G1 B), (Nd.G1 A)]) hts97 (Nat.le_of_ble_eq_true rfl)) ?_
 rintro _ w105 ⟨l103, rfl, hr103, hE104⟩
 have hzhE104 := hE104.size
 refine ⟨_, rfl, ?_⟩
 rw [Nd.r_or hsA hsB] at hr103
 have hn103 := hr103.lt
 obtain ⟨a103, cap103, rfl, hts103, hlen103⟩ := hn103.op2
 refine WL.call rfl rfl rfl Ty.ent9 (Norm_okC hn103 (Nd.r_ok4 hsA hsB).1.clean (Nd.r_ok4 hsA hsB).1 (Nd.r_ok4 hsA hsB).2) ?_
 rintro _ w108 ⟨l106, rfl, hr106, hE107⟩
 have hzhE107 := hE107.size
 refine ⟨_, rfl, ?_⟩
 rw [Nd.r_norm4 hsA hsB] at hr106
 have hn106 := hr106.lt
 obtain ⟨a106, cap106, rfl, hts106, hlen106⟩ := hn106.op2
 refine WL.move rfl rfl rfl ?_
 refine WL.extract rfl rfl rfl rfl ?_
 refine WL.extract rfl rfl rfl rfl ?_
 refine WL.alloc rfl rfl Ty.zero30 rfl (fun b109 w114 hb110 hE113 hs111 hR112 => ?_)
 refine WL.store_box rfl rfl rfl hR112 Ty.agg30 rfl rfl (fun w117 hB116 hR115 => ?_)
 have hzhB116 := hB116.size
 refine WL.assign rfl rfl rfl ?_
 refine WL.dn ?_
 refine WC.seqk ?_
 refine WC.weaken (r' := [(4, .bool false), (22, .bool false), (5, pt b10 0), (6, pt b16 0), (7, pt b32 0), (9, pt b46 0), (66, .bool false), (13, pt b85 0), (14, pt b86 0), (15, pt b109 0), (16, .int .i64 0)]) (sr rfl (sr rfl (sr rfl (sr rfl (sr rfl (sr rfl (sr rfl (sr rfl (sr rfl (sr rfl (sr rfl (subReg_nil _)))))))))))) ?_
 refine WC.region ?_
 have h118 := (hB116.row (((((hB93.row hR89 (by omega)).ext hE101).ext hE104).ext hE107).ext hE113) (by omega))
 refine WL.load_box rfl rfl rfl h118 Ty.agg30 ?_
 have h119 := (hB116.row ((((hR92.ext hE101).ext hE104).ext hE107).ext hE113) (by omega))
 refine WL.load_box rfl rfl rfl h119 Ty.agg30 ?_
 refine WL.load_box rfl rfl rfl h118 Ty.agg30 ?_
 have h120 := (((((h95.ext hE101).ext hE104).ext hE107).ext hE113).bu hB116)
 have h121 := (((((h96.ext hE101).ext hE104).ext hE107).ext hE113).bu hB116)
 refine WL.buildSlice (vs := [.agg (tcells (Nd.G1 A) (.slice a87 (Nd.G1 A).subs.length cap87)).toArray, .agg (tcells (Nd.G1 B) (.slice a88 (Nd.G1 B).subs.length cap88)).toArray, .agg (tcells (Nd.G1 A) (.slice a87 (Nd.G1 A).subs.length cap87)).toArray]) (cells := (tcells (Nd.G1 A) (.slice a87 (Nd.G1 A).subs.length cap87) ++ tcells (Nd.G1 B) (.slice a88 (Nd.G1 B).subs.length cap88) ++ tcells (Nd.G1 A) (.slice a87 (Nd.G1 A).subs.length cap87))) rfl rfl Ty.slice24 Ty.zero30 rfl rfl rfl rfl rfl rfl (fun b122 w127 hb123 hE126 hs124 hR125 => ?_)
 have hts122 := (NodesV.lit (n := 3) (ts := [(Nd.G1 A), (Nd.G1 B), (Nd.G1 A)]) hR125 (RowsL.cons (h120.ext hE126) (RowsL.cons (h121.ext hE126) (RowsL.cons (h120.ext hE126) (RowsL.nil' _)))) rfl rfl (by decide)).lt
 refine WL.call rfl rfl rfl Ty.ent15 (seq_ok _ _ _ _ ([(Nd.G1 A), (Nd.G1 B), (Nd.G1 A)]) hts122 (Nat.le_of_ble_eq_true rfl)) ?_
 rintro _ w130 ⟨l128, rfl, hr128, hE129⟩
 have hzhE129 := hE129.size
 refine ⟨_, rfl, ?_⟩
 rw [Nd.r_seq hsA hsB] at hr128
 have hn128 := hr128.lt
 obtain ⟨a128, cap128, rfl, hts128, hlen128⟩ := hn128.op2
 refine WL.call rfl rfl rfl Ty.ent9 (Norm_okC hn128 (Nd.r_ok3 hsA hsB).1.clean (Nd.r_ok3 hsA hsB).1 (Nd.r_ok3 hsA hsB).2) ?_
 rintro _ w133 ⟨l131, rfl, hr131, hE132⟩
 have hzhE132 := hE132.size
 refine ⟨_, rfl, ?_⟩
 rw [Nd.r_norm3 hsA hsB] at hr131
 have hn131 := hr131.lt
 obtain ⟨a131, cap131, rfl, hts131, hlen131⟩ := hn131.op2
 refine WL.move rfl rfl rfl ?_
 refine WL.extract rfl rfl rfl rfl ?_
 refine WL.extract rfl rfl rfl rfl ?_
 refine WL.alloc rfl rfl Ty.zero30 rfl (fun b134 w139 hb135 hE138 hs136 hR137 => ?_)
 refine WL.store_box rfl rfl rfl hR137 Ty.agg30 rfl rfl (fun w142 hB141 hR140 => ?_)
 have hzhB141 := hB141.size
 refine WL.assign rfl rfl rfl ?_
 refine WL.dn ?_
 refine WC.seqk ?_
 have h143 := (((((h120.ext hE126).ext hE129).ext hE132).ext hE138).bu hB141)
 have h144 := (((((h121.ext hE126).ext hE129).ext hE132).ext hE138).bu hB141)
 have h145 := ((((hts122.ext hE129).ext hE132).ext hE138).bu hB141)
 have h146 := (((hn128.ext hE132).ext hE138).bu hB141)
 have h147 := ((hn131.ext hE138).bu hB141)
 have h148 := (hB141.row (((((hB116.row (((((hB93.row (hB90.row ((h75.ext hE82).ext hE84) (by omega)) (by omega)).ext hE101).ext hE104).ext hE107).ext hE113) (by omega)).ext hE126).ext hE129).ext hE132).ext hE138) (by omega))
 have h149 := ((((((((((((((h72.ext hE82).ext hE84).bu hB90).bu hB93).ext hE101).ext hE104).ext hE107).ext hE113).bu hB116).ext hE126).ext hE129).ext hE132).ext hE138).bu hB141)
 have h150 := (hB141.row (((((hB116.row (((((hB93.row (hB90.row ((h76.ext hE82).ext hE84) (by omega)) (by omega)).ext hE101).ext hE104).ext hE107).ext hE113) (by omega)).ext hE126).ext hE129).ext hE132).ext hE138) (by omega))
 have h151 := ((((((((((((((h77.ext hE82).ext hE84).bu hB90).bu hB93).ext hE101).ext hE104).ext hE107).ext hE113).bu hB116).ext hE126).ext hE129).ext hE132).ext hE138).bu hB141)
 have h152 := (hB141.row (((((hB116.row (((((hB93.row (hB90.row ((h78.ext hE82).ext hE84) (by omega)) (by omega)).ext hE101).ext hE104).ext hE107).ext hE113) (by omega)).ext hE126).ext hE129).ext hE132).ext hE138) (by omega))
 have h153 := ((((((((((((((h79.ext hE82).ext hE84).bu hB90).bu hB93).ext hE101).ext hE104).ext hE107).ext hE113).bu hB116).ext hE126).ext hE129).ext hE132).ext hE138).bu hB141)
 have h154 := (hB141.row (((((hB116.row (((((hB93.row (hB90.row ((h80.ext hE82).ext hE84) (by omega)) (by omega)).ext hE101).ext hE104).ext hE107).ext hE113) (by omega)).ext hE126).ext hE129).ext hE132).ext hE138) (by omega))
 have h155 := ((((((((((((((h81.ext hE82).ext hE84).bu hB90).bu hB93).ext hE101).ext hE104).ext hE107).ext hE113).bu hB116).ext hE126).ext hE129).ext hE132).ext hE138).bu hB141)
 have h156 := (hB141.row (((((hB116.row (((((hB93.row (hB90.row ((hR69.ext hE82).ext hE84) (by omega)) (by omega)).ext hE101).ext hE104).ext hE107).ext hE113) (by omega)).ext hE126).ext hE129).ext hE132).ext hE138) (by omega))
 have h157 := ((((((((((((((h74.ext hE82).ext hE84).bu hB90).bu hB93).ext hE101).ext hE104).ext hE107).ext hE113).bu hB116).ext hE126).ext hE129).ext hE132).ext hE138).bu hB141)
 have h158 := (hB141.row ((((h118.ext hE126).ext hE129).ext hE132).ext hE138) (by omega))
 have h159 := (hB141.row ((((h119.ext hE126).ext hE129).ext hE132).ext hE138) (by omega))
 have h160 := (hB141.row ((((hR115.ext hE126).ext hE129).ext hE132).ext hE138) (by omega))
 have h161 := (((((((hn106.ext hE113).bu hB116).ext hE126).ext hE129).ext hE132).ext hE138).bu hB141)
 refine WC.weaken (r' := [(4, .bool false), (22, .bool false), (5, pt b10 0), (6, pt b16 0), (7, pt b32 0), (9, pt b46 0), (66, .bool false), (15, pt b109 0), (16, .int .i64 0), (17, pt b134 0), (18, .int .i64 0)]) (sr rfl (sr rfl (sr rfl (sr rfl (sr rfl (sr rfl (sr rfl (sr rfl (sr rfl (sr rfl (sr rfl (subReg_nil _)))))))))))) ?_
 refine WC.draw 6 [89, 90, 91, 92, 19, 20] [pc (.agg (tcells (Nd.norm A) (.slice a28 (Nd.norm A).subs.length cap28)).toArray), pnode (fun k => w142.heap.size ≤ k) (Nd.G1 (Nd.norm A)), pc (.agg (tcells (Nd.norm B) (.slice a42 (Nd.norm B).subs.length cap42)).toArray), pnode (fun k => w142.heap.size ≤ k) (Nd.G1 (Nd.norm B)), palloc 19 (zc 0 0 0 (.slice none 0 0)) 30, palloc 20 (zc 0 0 0 (.slice none 0 0)) 30] (by kernel_rfl) (by kernel_rfl) ⟨KW_pc _, KW_pnode _ _, KW_pc _, KW_pnode _ _, KW_palloc _ _ _, KW_palloc _ _ _, trivial⟩ rfl rfl rfl (sc ?_ (sc ?_ (sc ?_ (sc ?_ (sc ?_ (sc ?_ (StepsOn.nil _))))))) ?_
 ·intro σ β w1 hE1 hbi hk
  have hz1 := hE1.size
  refine ⟨[], (agree_nil _), ?_⟩
  refine WL.load_box rfl rfl rfl (h152.ext hE1) Ty.agg30 ?_
  exact dq hbi rfl
 ·intro σ β w1 hE1 hbi hk
  have hz1 := hE1.size
  obtain ⟨_, hv182, rfl⟩ := kn hk 0 rfl rfl
  refine ⟨[(89, .agg (tcells (Nd.norm A) (.slice a28 (Nd.norm A).subs.length cap28)).toArray)], (ag hv182 (agree_nil _)), ?_⟩
  refine WL.call rfl rfl rfl Ty.ent13 (capture_ok _ _ _ (Nd.norm A) (h153.ext hE1)) ?_
  rintro _ w185 ⟨l183, rfl, hr183, hE184⟩
  have hzhE184 := hE184.size
  refine ⟨_, rfl, ?_⟩
  rw [Nd.r_cap hsA.norm] at hr183
  have hn183 := hr183.lt
  obtain ⟨a183, cap183, rfl, hts183, hlen183⟩ := hn183.op2
  exact dqE hbi hE184 ⟨_, rfl, (hr183.off0 hbi (fun k hk => Nat.le_trans hE1.size hk))⟩
 ·intro σ β w1 hE1 hbi hk
  have hz1 := hE1.size
  refine ⟨[], (agree_nil _), ?_⟩
  refine WL.load_box rfl rfl rfl (h154.ext hE1) Ty.agg30 ?_
  exact dq hbi rfl
 ·intro σ β w1 hE1 hbi hk
  have hz1 := hE1.size
  obtain ⟨_, hv182, rfl⟩ := kn hk 2 rfl rfl
  refine ⟨[(91, .agg (tcells (Nd.norm B) (.slice a42 (Nd.norm B).subs.length cap42)).toArray)], (ag hv182 (agree_nil _)), ?_⟩
  refine WL.call rfl rfl rfl Ty.ent13 (capture_ok _ _ _ (Nd.norm B) (h155.ext hE1)) ?_
  rintro _ w185 ⟨l183, rfl, hr183, hE184⟩
  have hzhE184 := hE184.size
  refine ⟨_, rfl, ?_⟩
  rw [Nd.r_cap hsB.norm] at hr183
  have hn183 := hr183.lt
  obtain ⟨a183, cap183, rfl, hts183, hlen183⟩ := hn183.op2
  exact dqE hbi hE184 ⟨_, rfl, (hr183.off0 hbi (fun k hk => Nat.le_trans hE1.size hk))⟩
 ·intro σ β w1 hE1 hbi hk
  have hz1 := hE1.size
  refine ⟨[], (agree_nil _), ?_⟩
  refine WL.alloc rfl rfl Ty.zero30 rfl (fun b182 w187 hb183 hE186 hs184 hR185 => ?_)
  refine WL.nil (fun a_ ha => ?_)
  exact ⟨_, (19, b182) :: β, ha, hE186, BExt.cons (Nat.le_of_eq hb183.symm), hbi.cons hE186 hE1.size (Nat.le_of_eq hb183.symm) hR185.lt, b182, rfl, hR185, .head _⟩
 ·intro σ β w1 hE1 hbi hk
  have hz1 := hE1.size
  refine ⟨[], (agree_nil _), ?_⟩
  refine WL.alloc rfl rfl Ty.zero30 rfl (fun b182 w187 hb183 hE186 hs184 hR185 => ?_)
  refine WL.nil (fun a_ ha => ?_)
  exact ⟨_, (20, b182) :: β, ha, hE186, BExt.cons (Nat.le_of_eq hb183.symm), hbi.cons hE186 hE1.size (Nat.le_of_eq hb183.symm) hR185.lt, b182, rfl, hR185, .head _⟩
 intro σ β w162 hE162 hbi162 hk
 have hz162 := hE162.size
 have hbi := hbi162
 obtain ⟨_, hv163, b163, rfl, hR163, hm163⟩ := hk 4 (by decide) _ _ rfl rfl
 have hlo163 := hbi.lo _ hm163
 have hhi163 := hbi.hi _ hm163
 obtain ⟨_, hv164, b164, rfl, hR164, hm164⟩ := hk 5 (by decide) _ _ rfl rfl
 have hlo164 := hbi.lo _ hm164
 have hhi164 := hbi.hi _ hm164
 have hne164_163 : b164 ≠ b163 := fun h => by have := hbi.one _ _ hm164 hm163 h; simp at this
 have hne163_164 := hne164_163.symm
 obtain ⟨_, hv165, l165, rfl, hn165⟩ := hk 1 (by decide) _ _ rfl rfl
 have hn165 := hn165.dom (D' := fun k => ((w142.heap.size ≤ k) ∧ b163 ≠ k ∧ b164 ≠ k) ∧ k < w162.heap.size) (fun k h => ⟨⟨h.1, h.2.1 _ hm163, h.2.1 _ hm164⟩, h.2.2⟩)
 obtain ⟨a165, cap165, rfl, hts165, hlen165⟩ := hn165.op2
 obtain ⟨_, hv166, l166, rfl, hn166⟩ := hk 3 (by decide) _ _ rfl rfl
 have hn166 := hn166.dom (D' := fun k => ((w142.heap.size ≤ k) ∧ b163 ≠ k ∧ b164 ≠ k) ∧ k < w162.heap.size) (fun k h => ⟨⟨h.1, h.2.1 _ hm163, h.2.1 _ hm164⟩, h.2.2⟩)
 obtain ⟨a166, cap166, rfl, hts166, hlen166⟩ := hn166.op2
 refine WL.know [(19, pt b163 0), (20, pt b164 0), (90, .agg (tcells (Nd.G1 (Nd.norm A)) (.slice a165 (Nd.G1 (Nd.norm A)).subs.length cap165)).toArray), (92, .agg (tcells (Nd.G1 (Nd.norm B)) (.slice a166 (Nd.G1 (Nd.norm B)).subs.length cap166)).toArray)] (ag hv163 (ag hv164 (ag hv165 (ag hv166 (agree_nil _))))) ?_
 refine WL.store_box rfl rfl rfl hR163 Ty.agg30 rfl rfl (fun w169 hB168 hR167 => ?_)
 have hzhB168 := hB168.size
 refine WL.store_box rfl rfl rfl (hB168.row hR164 (by omega)) Ty.agg30 rfl rfl (fun w172 hB171 hR170 => ?_)
 have hzhB171 := hB171.size
 refine WL.dn ?_
 refine WC.seqk ?_
 cases hc173 : Nd.clean A && Nd.nullable A with
 | false =>
  have h174 := ((hn165.bu hB168).bu hB171)
  have h175 := ((hn166.bu hB168).bu hB171)
  have h176 := (hB171.row (hB168.row (h148.ext hE162) (by omega)) (by omega))
  have h177 := (((h149.ext hE162).bu hB168).bu hB171)
  have h178 := (hB171.row (hB168.row (h150.ext hE162) (by omega)) (by omega))
  have h179 := (((h151.ext hE162).bu hB168).bu hB171)
  have h180 := (hB171.row (hB168.row (h152.ext hE162) (by omega)) (by omega))
  have h181 := (((h153.ext hE162).bu hB168).bu hB171)
  have h182 := (hB171.row (hB168.row (h154.ext hE162) (by omega)) (by omega))
  have h183 := (((h155.ext hE162).bu hB168).bu hB171)
  have h184 := (hB171.row (hB168.row (h156.ext hE162) (by omega)) (by omega))
  have h185 := (((h157.ext hE162).bu hB168).bu hB171)
  have h186 := (hB171.row (hB168.row (h158.ext hE162) (by omega)) (by omega))
  have h187 := (((h143.ext hE162).bu hB168).bu hB171)
  have h188 := (hB171.row (hB168.row (h159.ext hE162) (by omega)) (by omega))
  have h189 := (((h144.ext hE162).bu hB168).bu hB171)
  have h190 := (hB171.row (hB168.row (h160.ext hE162) (by omega)) (by omega))
  have h191 := (((h161.ext hE162).bu hB168).bu hB171)
  have h192 := (hB171.row (hB168.row (hR140.ext hE162) (by omega)) (by omega))
  have h193 := (((h147.ext hE162).bu hB168).bu hB171)
  refine WC.weaken (r' := [(4, .bool false), (22, .bool false), (5, pt b10 0), (6, pt b16 0), (66, .bool false), (15, pt b109 0), (16, .int .i64 0), (17, pt b134 0), (18, .int .i64 0), (19, pt b163 0), (20, pt b164 0)]) (sr rfl (sr rfl (sr rfl (sr rfl (sr rfl (sr rfl (sr rfl (sr rfl (sr rfl (sr rfl (sr rfl (subReg_nil _)))))))))))) ?_
  refine WC.draw 44 [93, 94, 95, 96, 97, 98, 99, 100, 101, 102, 103, 104, 105, 106, 107, 108, 109, 110, 111, 112, 113, 114, 115, 116, 117, 118, 119, 120, 121, 122, 123, 124, 125, 126, 127, 128, 129, 130, 131, 132, 133, 134, 135, 136] [pc (.int .i64 0), pc (.int .i64 0), pc (.int .i64 0), pc (.bool true), pc (.bool true), pc (.agg (tcells (Nd.J3 4 (Nd.norm A) (Nd.norm B)) (.slice a106 (Nd.J3 4 (Nd.norm A) (Nd.norm B)).subs.length cap106)).toArray), pc (.agg (tcells (Nd.G1 (Nd.norm A)) (.slice a165 (Nd.G1 (Nd.norm A)).subs.length cap165)).toArray), pc (.agg (tcells (Nd.G1 (Nd.norm B)) (.slice a166 (Nd.G1 (Nd.norm B)).subs.length cap166)).toArray), pc (.agg (tcells (Nd.G1 (Nd.norm A)) (.slice a165 (Nd.G1 (Nd.norm A)).subs.length cap165)).toArray), pnodes (fun _ => True) ([(Nd.G1 (Nd.norm A)), (Nd.G1 (Nd.norm B)), (Nd.G1 (Nd.norm A))]), pnode (fun k => w172.heap.size ≤ k) (Nd.J3 4 (Nd.norm A) (Nd.norm B)), pc (.bool true), pc (.bool true), pc (.bool true), pc (.agg (tcells (Nd.J3 3 (Nd.norm A) (Nd.norm B)) (.slice a131 (Nd.J3 3 (Nd.norm A) (Nd.norm B)).subs.length cap131)).toArray), pc (.agg (tcells (Nd.G1 (Nd.norm A)) (.slice a165 (Nd.G1 (Nd.norm A)).subs.length cap165)).toArray), pc (.agg (tcells (Nd.G1 (Nd.norm B)) (.slice a166 (Nd.G1 (Nd.norm B)).subs.length cap166)).toArray), pc (.agg (tcells (Nd.G1 (Nd.norm A)) (.slice a165 (Nd.G1 (Nd.norm A)).subs.length cap165)).toArray), pnodes (fun _ => True) ([(Nd.G1 (Nd.norm A)), (Nd.G1 (Nd.norm B)), (Nd.G1 (Nd.norm A))]), pnode (fun k => w172.heap.size ≤ k) (Nd.J3 3 (Nd.norm A) (Nd.norm B)), pc (.bool true), pc (.bool true), pc (.bool true), pc (.agg (tcells (Nd.J3 3 (Nd.norm A) (Nd.norm B)) (.slice a131 (Nd.J3 3 (Nd.norm A) (Nd.norm B)).subs.length cap131)).toArray), pc (.bool (Nd.clean (Nd.J3 3 (Nd.norm A) (Nd.norm B)) && Nd.nullable (Nd.J3 3 (Nd.norm A) (Nd.norm B)))), pc (.agg (tcells A (.slice a4 A.subs.length cap4)).toArray), pc (.bool false), pc (.bool false), pc (undef), pc (undef), pc (.bool false), pc (.bool true), pc (.bool true), pc (.bool true), pc (.agg (tcells (Nd.J3 4 (Nd.norm A) (Nd.norm B)) (.slice a106 (Nd.J3 4 (Nd.norm A) (Nd.norm B)).subs.length cap106)).toArray), pc (.bool (Nd.clean (Nd.J3 4 (Nd.norm A) (Nd.norm B)) && Nd.nullable (Nd.J3 4 (Nd.norm A) (Nd.norm B)))), pc (.agg (tcells A (.slice a4 A.subs.length cap4)).toArray), pc (.bool false), pc (.bool false), pc (.agg (tcells B (.slice a7 B.subs.length cap7)).toArray), pc (.bool (Nd.clean B && Nd.nullable B)), pc (.bool (Nd.clean B && Nd.nullable B)), pc (.bool true), pc (.bool true)] (by kernel_rfl) (by kernel_rfl) ⟨KW_pc _, KW_pc _, KW_pc _, KW_pc _, KW_pc _, KW_pc _, KW_pc _, KW_pc _, KW_pc _, KW_pnodes _ _, KW_pnode _ _, KW_pc _, KW_pc _, KW_pc _, KW_pc _, KW_pc _, KW_pc _, KW_pc _, KW_pnodes _ _, KW_pnode _ _, KW_pc _, KW_pc _, KW_pc _, KW_pc _, KW_pc _, KW_pc _, KW_pc _, KW_pc _, KW_pc _, KW_pc _, KW_pc _, KW_pc _, KW_pc _, KW_pc _, KW_pc _, KW_pc _, KW_pc _, KW_pc _, KW_pc _, KW_pc _, KW_pc _, KW_pc _, KW_pc _, KW_pc _, trivial⟩ rfl rfl rfl (sc ?_ (sc ?_ (sc ?_ (sc ?_ (sc ?_ (sc ?_ (sc ?_ (sc ?_ (sc ?_ (sc ?_ (sc ?_ (sc ?_ (sc ?_ (sc ?_ (sc ?_ (sc ?_ (sc ?_ (sc ?_ (sc ?_ (sc ?_ (sc ?_ (sc ?_ (sc ?_ (sc ?_ (sc ?_ (sc ?_ (sc ?_ (sc ?_ (sc ?_ (sc ?_ (sc ?_ (sc ?_ (sc ?_ (sc ?_ (sc ?_ (sc ?_ (sc ?_ (sc ?_ (sc ?_ (sc ?_ (sc ?_ (sc ?_ (sc ?_ (sc ?_ (StepsOn.nil _))))))))))))))))))))))))))))))))))))))))))))) ?_
  ·intro σ β w1 hE1 hbi hk
   have hz1 := hE1.size
   refine ⟨[], (agree_nil _), ?_⟩
   refine WL.move rfl rfl rfl ?_
   exact dq hbi rfl
  ·intro σ β w1 hE1 hbi hk
   have hz1 := hE1.size
   refine ⟨[], (agree_nil _), ?_⟩
   refine WL.move rfl rfl rfl ?_
   exact dq hbi rfl
  ·intro σ β w1 hE1 hbi hk
   have hz1 := hE1.size
   obtain ⟨_, hv214, rfl⟩ := kn hk 0 rfl rfl
   obtain ⟨_, hv215, rfl⟩ := kn hk 1 rfl rfl
   refine ⟨[(93, .int .i64 0), (94, .int .i64 0)], (ag hv214 (ag hv215 (agree_nil _))), ?_⟩
   refine WL.add (v := 0) rfl rfl rfl rfl (by decide) ?_
   exact dq hbi rfl
  ·intro σ β w1 hE1 hbi hk
   have hz1 := hE1.size
   obtain ⟨_, hv214, rfl⟩ := kn hk 2 rfl rfl
   refine ⟨[(95, .int .i64 0)], (ag hv214 (agree_nil _)), ?_⟩
   refine WL.eql rfl rfl rfl rfl rfl ?_
   exact dq hbi rfl
  ·intro σ β w1 hE1 hbi hk
   have hz1 := hE1.size
   obtain ⟨_, hv214, rfl⟩ := kn hk 3 rfl rfl
   refine ⟨[(96, .bool true)], (ag hv214 (agree_nil _)), ?_⟩
   refine WL.move rfl rfl rfl ?_
   exact dq hbi rfl
  ·intro σ β w1 hE1 hbi hk
   have hz1 := hE1.size
   obtain ⟨_, hv214, rfl⟩ := kn hk 4 rfl rfl
   refine ⟨[(97, .bool true)], (ag hv214 (agree_nil _)), ?_⟩
   refine WL.load_box rfl rfl rfl (h190.ext hE1) Ty.agg30 ?_
   exact dq hbi rfl
  ·intro σ β w1 hE1 hbi hk
   have hz1 := hE1.size
   obtain ⟨_, hv214, rfl⟩ := kn hk 4 rfl rfl
   refine ⟨[(97, .bool true)], (ag hv214 (agree_nil _)), ?_⟩
   have h215 := ((hB171.row hR167 (by omega)).ext hE1)
   refine WL.load_box rfl rfl rfl h215 Ty.agg30 ?_
   exact dq hbi rfl
  ·intro σ β w1 hE1 hbi hk
   have hz1 := hE1.size
   obtain ⟨_, hv214, rfl⟩ := kn hk 4 rfl rfl
   refine ⟨[(97, .bool true)], (ag hv214 (agree_nil _)), ?_⟩
   refine WL.load_box rfl rfl rfl (hR170.ext hE1) Ty.agg30 ?_
   exact dq hbi rfl
  ·intro σ β w1 hE1 hbi hk
   have hz1 := hE1.size
   obtain ⟨_, hv214, rfl⟩ := kn hk 4 rfl rfl
   refine ⟨[(97, .bool true)], (ag hv214 (agree_nil _)), ?_⟩
   have h215 := ((hB171.row hR167 (by omega)).ext hE1)
   refine WL.load_box rfl rfl rfl h215 Ty.agg30 ?_
   exact dq hbi rfl
  ·intro σ β w1 hE1 hbi hk
   have hz1 := hE1.size
   obtain ⟨_, hv214, rfl⟩ := kn hk 4 rfl rfl
   obtain ⟨_, hv215, rfl⟩ := kn hk 6 rfl rfl
   obtain ⟨_, hv216, rfl⟩ := kn hk 7 rfl rfl
   obtain ⟨_, hv217, rfl⟩ := kn hk 8 rfl rfl
   refine ⟨[(97, .bool true), (99, .agg (tcells (Nd.G1 (Nd.norm A)) (.slice a165 (Nd.G1 (Nd.norm A)).subs.length cap165)).toArray), (100, .agg (tcells (Nd.G1 (Nd.norm B)) (.slice a166 (Nd.G1 (Nd.norm B)).subs.length cap166)).toArray), (101, .agg (tcells (Nd.G1 (Nd.norm A)) (.slice a165 (Nd.G1 (Nd.norm A)).subs.length cap165)).toArray)], (ag hv214 (ag hv215 (ag hv216 (ag hv217 (agree_nil _))))), ?_⟩
   refine WL.buildSlice (vs := [.agg (tcells (Nd.G1 (Nd.norm A)) (.slice a165 (Nd.G1 (Nd.norm A)).subs.length cap165)).toArray, .agg (tcells (Nd.G1 (Nd.norm B)) (.slice a166 (Nd.G1 (Nd.norm B)).subs.length cap166)).toArray, .agg (tcells (Nd.G1 (Nd.norm A)) (.slice a165 (Nd.G1 (Nd.norm A)).subs.length cap165)).toArray]) (cells := (tcells (Nd.G1 (Nd.norm A)) (.slice a165 (Nd.G1 (Nd.norm A)).subs.length cap165) ++ tcells (Nd.G1 (Nd.norm B)) (.slice a166 (Nd.G1 (Nd.norm B)).subs.length cap166) ++ tcells (Nd.G1 (Nd.norm A)) (.slice a165 (Nd.G1 (Nd.norm A)).subs.length cap165))) rfl rfl Ty.slice24 Ty.zero30 rfl rfl rfl rfl rfl rfl (fun b218 w223 hb219 hE222 hs220 hR221 => ?_)
   have hts218 := (NodesV.lit (n := 3) (ts := [(Nd.G1 (Nd.norm A)), (Nd.G1 (Nd.norm B)), (Nd.G1 (Nd.norm A))]) hR221 (RowsL.cons ((h174.ext hE1).ext hE222) (RowsL.cons ((h175.ext hE1).ext hE222) (RowsL.cons ((h174.ext hE1).ext hE222) (RowsL.nil' _)))) rfl rfl (by decide)).lt
   exact dqE hbi hE222 ⟨_, _, rfl, (hts218.dom (by intro k h1; refine ⟨trivial, ?_, h1.2⟩; replace h1 := h1.1; intro x hxm; have hi := hbi.hi x hxm; have lo := hbi.lo x hxm; (try dsimp only at h1); (repeat' first | (guard_hyp h1 : _ ∨ _; refine Or.elim h1 (fun h1 => ?_) (fun h1 => ?_)) | (guard_hyp h1 : _ ∧ _; have hx := h1.2; replace h1 := h1.1)) <;> first | contradiction | omega | exact hx.1 x hxm))⟩
  ·intro σ β w1 hE1 hbi hk
   have hz1 := hE1.size
   obtain ⟨_, hv214, rfl⟩ := kn hk 4 rfl rfl
   obtain ⟨_, hv215, a215, cap215, rfl, hts215⟩ := kn hk 9 rfl rfl
   have hts215 := hts215.lt
   have hlen215 := hts215.len
   refine ⟨[(97, .bool true), (102, .slice a215 (([(Nd.G1 (Nd.norm A)), (Nd.G1 (Nd.norm B)), (Nd.G1 (Nd.norm A))]).length) cap215)], (ag hv214 (ag hv215 (agree_nil _))), ?_⟩
   refine WL.call rfl rfl rfl Ty.ent10 (or_ok _ _ _ _ ([(Nd.G1 (Nd.norm A)), (Nd.G1 (Nd.norm B)), (Nd.G1 (Nd.norm A))]) hts215 (Nat.le_of_ble_eq_true rfl)) ?_
   rintro _ w218 ⟨l216, rfl, hr216, hE217⟩
   have hzhE217 := hE217.size
   refine ⟨_, rfl, ?_⟩
   rw [Nd.r_or hsA.norm hsB.norm] at hr216
   have hn216 := hr216.lt
   obtain ⟨a216, cap216, rfl, hts216, hlen216⟩ := hn216.op2
   exact dqE hbi hE217 ⟨_, rfl, (hr216.off0 hbi (fun k hk => Nat.le_trans hE1.size hk))⟩
  ·intro σ β w1 hE1 hbi hk
   have hz1 := hE1.size
   obtain ⟨_, hv214, rfl⟩ := kn hk 4 rfl rfl
   obtain ⟨_, hv215, rfl⟩ := kn hk 5 rfl rfl
   obtain ⟨_, hv216, l216, rfl, hn216⟩ := kn hk 10 rfl rfl
   have hn216 := hn216.lt
   obtain ⟨a216, cap216, rfl, hts216, hlen216⟩ := hn216.op2
   refine ⟨[(97, .bool true), (98, .agg (tcells (Nd.J3 4 (Nd.norm A) (Nd.norm B)) (.slice a106 (Nd.J3 4 (Nd.norm A) (Nd.norm B)).subs.length cap106)).toArray), (103, .agg (tcells (Nd.J3 4 (Nd.norm A) (Nd.norm B)) (.slice a216 (Nd.J3 4 (Nd.norm A) (Nd.norm B)).subs.length cap216)).toArray)], (ag hv214 (ag hv215 (ag hv216 (agree_nil _)))), ?_⟩
   refine WL.call rfl rfl rfl Ty.ent11 (Same_ok _ _ _ _ _ (Nd.J3 4 (Nd.norm A) (Nd.norm B)) (Nd.J3 4 (Nd.norm A) (Nd.norm B)) (h191.ext hE1) hn216) ?_
   rintro _ w218 ⟨he, hE217⟩
   have hq : (Nd.light (Nd.J3 4 (Nd.norm A) (Nd.norm B)) && Nd.light (Nd.J3 4 (Nd.norm A) (Nd.norm B)) && Nd.same (Nd.J3 4 (Nd.norm A) (Nd.norm B)) (Nd.J3 4 (Nd.norm A) (Nd.norm B))) = true := (Nd.Same_self (Nd.r_ok4 hsA.norm hsB.norm).1.light)
   rw [hq] at he
   subst he
   clear hq
   have hzhE217 := hE217.size
   refine ⟨_, rfl, ?_⟩
   exact dqE hbi hE217 rfl
  ·intro σ β w1 hE1 hbi hk
   have hz1 := hE1.size
   obtain ⟨_, hv214, rfl⟩ := kn hk 4 rfl rfl
   obtain ⟨_, hv215, rfl⟩ := kn hk 11 rfl rfl
   refine ⟨[(97, .bool true), (104, .bool true)], (ag hv214 (ag hv215 (agree_nil _))), ?_⟩
   refine WL.pick_t rfl rfl rfl rfl ?_
   exact dq hbi rfl
  ·intro σ β w1 hE1 hbi hk
   have hz1 := hE1.size
   obtain ⟨_, hv214, rfl⟩ := kn hk 12 rfl rfl
   refine ⟨[(105, .bool true)], (ag hv214 (agree_nil _)), ?_⟩
   refine WL.move rfl rfl rfl ?_
   exact dq hbi rfl
  ·intro σ β w1 hE1 hbi hk
   have hz1 := hE1.size
   obtain ⟨_, hv214, rfl⟩ := kn hk 13 rfl rfl
   refine ⟨[(106, .bool true)], (ag hv214 (agree_nil _)), ?_⟩
   refine WL.load_box rfl rfl rfl (h192.ext hE1) Ty.agg30 ?_
   exact dq hbi rfl
  ·intro σ β w1 hE1 hbi hk
   have hz1 := hE1.size
   obtain ⟨_, hv214, rfl⟩ := kn hk 13 rfl rfl
   refine ⟨[(106, .bool true)], (ag hv214 (agree_nil _)), ?_⟩
   have h215 := ((hB171.row hR167 (by omega)).ext hE1)
   refine WL.load_box rfl rfl rfl h215 Ty.agg30 ?_
   exact dq hbi rfl
  ·intro σ β w1 hE1 hbi hk
   have hz1 := hE1.size
   obtain ⟨_, hv214, rfl⟩ := kn hk 13 rfl rfl
   refine ⟨[(106, .bool true)], (ag hv214 (agree_nil _)), ?_⟩
   refine WL.load_box rfl rfl rfl (hR170.ext hE1) Ty.agg30 ?_
   exact dq hbi rfl
  ·intro σ β w1 hE1 hbi hk
   have hz1 := hE1.size
   obtain ⟨_, hv214, rfl⟩ := kn hk 13 rfl rfl
   refine ⟨[(106, .bool true)], (ag hv214 (agree_nil _)), ?_⟩
   have h215 := ((hB171.row hR167 (by omega)).ext hE1)
   refine WL.load_box rfl rfl rfl h215 Ty.agg30 ?_
   exact dq hbi rfl
  ·intro σ β w1 hE1 hbi hk
   have hz1 := hE1.size
   obtain ⟨_, hv214, rfl⟩ := kn hk 13 rfl rfl
   obtain ⟨_, hv215, rfl⟩ := kn hk 15 rfl rfl
   obtain ⟨_, hv216, rfl⟩ := kn hk 16 rfl rfl
   obtain ⟨_, hv217, rfl⟩ := kn hk 17 rfl rfl
   refine ⟨[(106, .bool true), (108, .agg (tcells (Nd.G1 (Nd.norm A)) (.slice a165 (Nd.G1 (Nd.norm A)).subs.length cap165)).toArray), (109, .agg (tcells (Nd.G1 (Nd.norm B)) (.slice a166 (Nd.G1 (Nd.norm B)).subs.length cap166)).toArray), (110, .agg (tcells (Nd.G1 (Nd.norm A)) (.slice a165 (Nd.G1 (Nd.norm A)).subs.length cap165)).toArray)], (ag hv214 (ag hv215 (ag hv216 (ag hv217 (agree_nil _))))), ?_⟩
   refine WL.buildSlice (vs := [.agg (tcells (Nd.G1 (Nd.norm A)) (.slice a165 (Nd.G1 (Nd.norm A)).subs.length cap165)).toArray, .agg (tcells (Nd.G1 (Nd.norm B)) (.slice a166 (Nd.G1 (Nd.norm B)).subs.length cap166)).toArray, .agg (tcells (Nd.G1 (Nd.norm A)) (.slice a165 (Nd.G1 (Nd.norm A)).subs.length cap165)).toArray]) (cells := (tcells (Nd.G1 (Nd.norm A)) (.slice a165 (Nd.G1 (Nd.norm A)).subs.length cap165) ++ tcells (Nd.G1 (Nd.norm B)) (.slice a166 (Nd.G1 (Nd.norm B)).subs.length cap166) ++ tcells (Nd.G1 (Nd.norm A)) (.slice a165 (Nd.G1 (Nd.norm A)).subs.length cap165))) rfl rfl Ty.slice24 Ty.zero30 rfl rfl rfl rfl rfl rfl (fun b218 w223 hb219 hE222 hs220 hR221 => ?_)
   have hts218 := (NodesV.lit (n := 3) (ts := [(Nd.G1 (Nd.norm A)), (Nd.G1 (Nd.norm B)), (Nd.G1 (Nd.norm A))]) hR221 (RowsL.cons ((h174.ext hE1).ext hE222) (RowsL.cons ((h175.ext hE1).ext hE222) (RowsL.cons ((h174.ext hE1).ext hE222) (RowsL.nil' _)))) rfl rfl (by decide)).lt
   exact dqE hbi hE222 ⟨_, _, rfl, (hts218.dom (by intro k h1; refine ⟨trivial, ?_, h1.2⟩; replace h1 := h1.1; intro x hxm; have hi := hbi.hi x hxm; have lo := hbi.lo x hxm; (try dsimp only at h1); (repeat' first | (guard_hyp h1 : _ ∨ _; refine Or.elim h1 (fun h1 => ?_) (fun h1 => ?_)) | (guard_hyp h1 : _ ∧ _; have hx := h1.2; replace h1 := h1.1)) <;> first | contradiction | omega | exact hx.1 x hxm))⟩
  ·intro σ β w1 hE1 hbi hk
   have hz1 := hE1.size
   obtain ⟨_, hv214, rfl⟩ := kn hk 13 rfl rfl
   obtain ⟨_, hv215, a215, cap215, rfl, hts215⟩ := kn hk 18 rfl rfl
   have hts215 := hts215.lt
   have hlen215 := hts215.len
   refine ⟨[(106, .bool true), (111, .slice a215 (([(Nd.G1 (Nd.norm A)), (Nd.G1 (Nd.norm B)), (Nd.G1 (Nd.norm A))]).length) cap215)], (ag hv214 (ag hv215 (agree_nil _))), ?_⟩
   refine WL.call rfl rfl rfl Ty.ent15 (seq_ok _ _ _ _ ([(Nd.G1 (Nd.norm A)), (Nd.G1 (Nd.norm B)), (Nd.G1 (Nd.norm A))]) hts215 (Nat.le_of_ble_eq_true rfl)) ?_
   rintro _ w218 ⟨l216, rfl, hr216, hE217⟩
   have hzhE217 := hE217.size
   refine ⟨_, rfl, ?_⟩
   rw [Nd.r_seq hsA.norm hsB.norm] at hr216
   have hn216 := hr216.lt
   obtain ⟨a216, cap216, rfl, hts216, hlen216⟩ := hn216.op2
   exact dqE hbi hE217 ⟨_, rfl, (hr216.off0 hbi (fun k hk => Nat.le_trans hE1.size hk))⟩
  ·intro σ β w1 hE1 hbi hk
   have hz1 := hE1.size
   obtain ⟨_, hv214, rfl⟩ := kn hk 13 rfl rfl
   obtain ⟨_, hv215, rfl⟩ := kn hk 14 rfl rfl
   obtain ⟨_, hv216, l216, rfl, hn216⟩ := kn hk 19 rfl rfl
   have hn216 := hn216.lt
   obtain ⟨a216, cap216, rfl, hts216, hlen216⟩ := hn216.op2
   refine ⟨[(106, .bool true), (107, .agg (tcells (Nd.J3 3 (Nd.norm A) (Nd.norm B)) (.slice a131 (Nd.J3 3 (Nd.norm A) (Nd.norm B)).subs.length cap131)).toArray), (112, .agg (tcells (Nd.J3 3 (Nd.norm A) (Nd.norm B)) (.slice a216 (Nd.J3 3 (Nd.norm A) (Nd.norm B)).subs.length cap216)).toArray)], (ag hv214 (ag hv215 (ag hv216 (agree_nil _)))), ?_⟩
   refine WL.call rfl rfl rfl Ty.ent11 (Same_ok _ _ _ _ _ (Nd.J3 3 (Nd.norm A) (Nd.norm B)) (Nd.J3 3 (Nd.norm A) (Nd.norm B)) (h193.ext hE1) hn216) ?_
   rintro _ w218 ⟨he, hE217⟩
   have hq : (Nd.light (Nd.J3 3 (Nd.norm A) (Nd.norm B)) && Nd.light (Nd.J3 3 (Nd.norm A) (Nd.norm B)) && Nd.same (Nd.J3 3 (Nd.norm A) (Nd.norm B)) (Nd.J3 3 (Nd.norm A) (Nd.norm B))) = true := (Nd.Same_self (Nd.r_ok3 hsA.norm hsB.norm).1.light)
   rw [hq] at he
   subst he
   clear hq
   have hzhE217 := hE217.size
   refine ⟨_, rfl, ?_⟩
   exact dqE hbi hE217 rfl
  ·intro σ β w1 hE1 hbi hk
   have hz1 := hE1.size
   obtain ⟨_, hv214, rfl⟩ := kn hk 13 rfl rfl
   obtain ⟨_, hv215, rfl⟩ := kn hk 20 rfl rfl
   refine ⟨[(106, .bool true), (113, .bool true)], (ag hv214 (ag hv215 (agree_nil _))), ?_⟩
   refine WL.pick_t rfl rfl rfl rfl ?_
   exact dq hbi rfl
  ·intro σ β w1 hE1 hbi hk
   have hz1 := hE1.size
   obtain ⟨_, hv214, rfl⟩ := kn hk 21 rfl rfl
   refine ⟨[(114, .bool true)], (ag hv214 (agree_nil _)), ?_⟩
   refine WL.move rfl rfl rfl ?_
   exact dq hbi rfl
  ·intro σ β w1 hE1 hbi hk
   have hz1 := hE1.size
   obtain ⟨_, hv214, rfl⟩ := kn hk 22 rfl rfl
   refine ⟨[(115, .bool true)], (ag hv214 (agree_nil _)), ?_⟩
   refine WL.load_box rfl rfl rfl (h192.ext hE1) Ty.agg30 ?_
   exact dq hbi rfl
  ·intro σ β w1 hE1 hbi hk
   have hz1 := hE1.size
   obtain ⟨_, hv214, rfl⟩ := kn hk 22 rfl rfl
   obtain ⟨_, hv215, rfl⟩ := kn hk 23 rfl rfl
   refine ⟨[(115, .bool true), (116, .agg (tcells (Nd.J3 3 (Nd.norm A) (Nd.norm B)) (.slice a131 (Nd.J3 3 (Nd.norm A) (Nd.norm B)).subs.length cap131)).toArray)], (ag hv214 (ag hv215 (agree_nil _))), ?_⟩
   refine WL.call rfl rfl rfl Ty.ent14 (Nullable_ok _ _ _ (Nd.J3 3 (Nd.norm A) (Nd.norm B)) (h193.ext hE1)) ?_
   rintro _ w217 ⟨rfl, hE216⟩
   have hzhE216 := hE216.size
   refine ⟨_, rfl, ?_⟩
   exact dqE hbi hE216 rfl
  ·intro σ β w1 hE1 hbi hk
   have hz1 := hE1.size
   obtain ⟨_, hv214, rfl⟩ := kn hk 22 rfl rfl
   refine ⟨[(115, .bool true)], (ag hv214 (agree_nil _)), ?_⟩
   refine WL.load_box rfl rfl rfl (h176.ext hE1) Ty.agg30 ?_
   exact dq hbi rfl
  ·intro σ β w1 hE1 hbi hk
   have hz1 := hE1.size
   obtain ⟨_, hv214, rfl⟩ := kn hk 22 rfl rfl
   obtain ⟨_, hv215, rfl⟩ := kn hk 25 rfl rfl
   refine ⟨[(115, .bool true), (118, .agg (tcells A (.slice a4 A.subs.length cap4)).toArray)], (ag hv214 (ag hv215 (agree_nil _))), ?_⟩
   refine WL.call rfl rfl rfl Ty.ent14 (Nullable_ok _ _ _ A (h177.ext hE1)) ?_
   rintro _ w217 ⟨he, hE216⟩
   have hq : (Nd.clean A && Nd.nullable A) = false := hc173
   rw [hq] at he
   subst he
   clear hq
   have hzhE216 := hE216.size
   refine ⟨_, rfl, ?_⟩
   exact dqE hbi hE216 rfl
  ·intro σ β w1 hE1 hbi hk
   have hz1 := hE1.size
   obtain ⟨_, hv214, rfl⟩ := kn hk 22 rfl rfl
   obtain ⟨_, hv215, rfl⟩ := kn hk 26 rfl rfl
   refine ⟨[(115, .bool true), (119, .bool false)], (ag hv214 (ag hv215 (agree_nil _))), ?_⟩
   refine WL.move rfl rfl rfl ?_
   exact dq hbi rfl
  ·intro σ β w1 hE1 hbi hk
   have hz1 := hE1.size
   obtain ⟨_, hv214, rfl⟩ := kn hk 27 rfl rfl
   refine ⟨[(120, .bool false)], (ag hv214 (agree_nil _)), ?_⟩
   refine WL.pass rfl rfl ?_
   exact dq hbi rfl
  ·intro σ β w1 hE1 hbi hk
   have hz1 := hE1.size
   obtain ⟨_, hv214, rfl⟩ := kn hk 27 rfl rfl
   obtain ⟨_, hv215, rfl⟩ := kn hk 28 rfl rfl
   refine ⟨[(120, .bool false), (121, undef)], (ag hv214 (ag hv215 (agree_nil _))), ?_⟩
   refine WL.pass rfl rfl ?_
   exact dq hbi rfl
  ·intro σ β w1 hE1 hbi hk
   have hz1 := hE1.size
   obtain ⟨_, hv214, rfl⟩ := kn hk 22 rfl rfl
   obtain ⟨_, hv215, rfl⟩ := kn hk 27 rfl rfl
   obtain ⟨_, hv216, rfl⟩ := kn hk 29 rfl rfl
   refine ⟨[(115, .bool true), (120, .bool false), (122, undef)], (ag hv214 (ag hv215 (ag hv216 (agree_nil _)))), ?_⟩
   refine WL.pick_f rfl rfl rfl rfl ?_
   exact dq hbi rfl
  ·intro σ β w1 hE1 hbi hk
   have hz1 := hE1.size
   obtain ⟨_, hv214, rfl⟩ := kn hk 22 rfl rfl
   obtain ⟨_, hv215, rfl⟩ := kn hk 24 rfl rfl
   obtain ⟨_, hv216, rfl⟩ := kn hk 30 rfl rfl
   refine ⟨[(115, .bool true), (117, .bool (Nd.clean (Nd.J3 3 (Nd.norm A) (Nd.norm B)) && Nd.nullable (Nd.J3 3 (Nd.norm A) (Nd.norm B)))), (123, .bool false)], (ag hv214 (ag hv215 (ag hv216 (agree_nil _)))), ?_⟩
   refine WL.eqlB (b := true) rfl rfl Try.underlying4 rfl rfl (by rw [Nd.r_t3 hsA hsB]; simp [hc173]) ?_
   exact dq hbi rfl
  ·intro σ β w1 hE1 hbi hk
   have hz1 := hE1.size
   obtain ⟨_, hv214, rfl⟩ := kn hk 22 rfl rfl
   obtain ⟨_, hv215, rfl⟩ := kn hk 31 rfl rfl
   refine ⟨[(115, .bool true), (124, .bool true)], (ag hv214 (ag hv215 (agree_nil _))), ?_⟩
   refine WL.pick_t rfl rfl rfl rfl ?_
   exact dq hbi rfl
  ·intro σ β w1 hE1 hbi hk
   have hz1 := hE1.size
   obtain ⟨_, hv214, rfl⟩ := kn hk 32 rfl rfl
   refine ⟨[(125, .bool true)], (ag hv214 (agree_nil _)), ?_⟩
   refine WL.move rfl rfl rfl ?_
   exact dq hbi rfl
  ·intro σ β w1 hE1 hbi hk
   have hz1 := hE1.size
   obtain ⟨_, hv214, rfl⟩ := kn hk 33 rfl rfl
   refine ⟨[(126, .bool true)], (ag hv214 (agree_nil _)), ?_⟩
   refine WL.load_box rfl rfl rfl (h190.ext hE1) Ty.agg30 ?_
   exact dq hbi rfl
  ·intro σ β w1 hE1 hbi hk
   have hz1 := hE1.size
   obtain ⟨_, hv214, rfl⟩ := kn hk 33 rfl rfl
   obtain ⟨_, hv215, rfl⟩ := kn hk 34 rfl rfl
   refine ⟨[(126, .bool true), (127, .agg (tcells (Nd.J3 4 (Nd.norm A) (Nd.norm B)) (.slice a106 (Nd.J3 4 (Nd.norm A) (Nd.norm B)).subs.length cap106)).toArray)], (ag hv214 (ag hv215 (agree_nil _))), ?_⟩
   refine WL.call rfl rfl rfl Ty.ent14 (Nullable_ok _ _ _ (Nd.J3 4 (Nd.norm A) (Nd.norm B)) (h191.ext hE1)) ?_
   rintro _ w217 ⟨rfl, hE216⟩
   have hzhE216 := hE216.size
   refine ⟨_, rfl, ?_⟩
   exact dqE hbi hE216 rfl
  ·intro σ β w1 hE1 hbi hk
   have hz1 := hE1.size
   obtain ⟨_, hv214, rfl⟩ := kn hk 33 rfl rfl
   refine ⟨[(126, .bool true)], (ag hv214 (agree_nil _)), ?_⟩
   refine WL.load_box rfl rfl rfl (h176.ext hE1) Ty.agg30 ?_
   exact dq hbi rfl
  ·intro σ β w1 hE1 hbi hk
   have hz1 := hE1.size
   obtain ⟨_, hv214, rfl⟩ := kn hk 33 rfl rfl
   obtain ⟨_, hv215, rfl⟩ := kn hk 36 rfl rfl
   refine ⟨[(126, .bool true), (129, .agg (tcells A (.slice a4 A.subs.length cap4)).toArray)], (ag hv214 (ag hv215 (agree_nil _))), ?_⟩
   refine WL.call rfl rfl rfl Ty.ent14 (Nullable_ok _ _ _ A (h177.ext hE1)) ?_
   rintro _ w217 ⟨he, hE216⟩
   have hq : (Nd.clean A && Nd.nullable A) = false := hc173
   rw [hq] at he
   subst he
   clear hq
   have hzhE216 := hE216.size
   refine ⟨_, rfl, ?_⟩
   exact dqE hbi hE216 rfl
  ·intro σ β w1 hE1 hbi hk
   have hz1 := hE1.size
   obtain ⟨_, hv214, rfl⟩ := kn hk 33 rfl rfl
   obtain ⟨_, hv215, rfl⟩ := kn hk 37 rfl rfl
   refine ⟨[(126, .bool true), (130, .bool false)], (ag hv214 (ag hv215 (agree_nil _))), ?_⟩
   refine WL.move rfl rfl rfl ?_
   exact dq hbi rfl
  ·intro σ β w1 hE1 hbi hk
   have hz1 := hE1.size
   obtain ⟨_, hv214, rfl⟩ := kn hk 38 rfl rfl
   refine ⟨[(131, .bool false)], (ag hv214 (agree_nil _)), ?_⟩
   refine WL.load_box rfl rfl rfl (h178.ext hE1) Ty.agg30 ?_
   exact dq hbi rfl
  ·intro σ β w1 hE1 hbi hk
   have hz1 := hE1.size
   obtain ⟨_, hv214, rfl⟩ := kn hk 38 rfl rfl
   obtain ⟨_, hv215, rfl⟩ := kn hk 39 rfl rfl
   refine ⟨[(131, .bool false), (132, .agg (tcells B (.slice a7 B.subs.length cap7)).toArray)], (ag hv214 (ag hv215 (agree_nil _))), ?_⟩
   refine WL.call rfl rfl rfl Ty.ent14 (Nullable_ok _ _ _ B (h179.ext hE1)) ?_
   rintro _ w217 ⟨rfl, hE216⟩
   have hzhE216 := hE216.size
   refine ⟨_, rfl, ?_⟩
   exact dqE hbi hE216 rfl
  ·intro σ β w1 hE1 hbi hk
   have hz1 := hE1.size
   obtain ⟨_, hv214, rfl⟩ := kn hk 33 rfl rfl
   obtain ⟨_, hv215, rfl⟩ := kn hk 38 rfl rfl
   obtain ⟨_, hv216, rfl⟩ := kn hk 40 rfl rfl
   refine ⟨[(126, .bool true), (131, .bool false), (133, .bool (Nd.clean B && Nd.nullable B))], (ag hv214 (ag hv215 (ag hv216 (agree_nil _)))), ?_⟩
   refine WL.pick_f rfl rfl rfl rfl ?_
   exact dq hbi rfl
  ·intro σ β w1 hE1 hbi hk
   have hz1 := hE1.size
   obtain ⟨_, hv214, rfl⟩ := kn hk 33 rfl rfl
   obtain ⟨_, hv215, rfl⟩ := kn hk 35 rfl rfl
   obtain ⟨_, hv216, rfl⟩ := kn hk 41 rfl rfl
   refine ⟨[(126, .bool true), (128, .bool (Nd.clean (Nd.J3 4 (Nd.norm A) (Nd.norm B)) && Nd.nullable (Nd.J3 4 (Nd.norm A) (Nd.norm B)))), (134, .bool (Nd.clean B && Nd.nullable B))], (ag hv214 (ag hv215 (ag hv216 (agree_nil _)))), ?_⟩
   refine WL.eqlB (b := true) rfl rfl Try.underlying4 rfl rfl (by rw [Nd.r_t4 hsA hsB]; simp [hc173]) ?_
   exact dq hbi rfl
  ·intro σ β w1 hE1 hbi hk
   have hz1 := hE1.size
   obtain ⟨_, hv214, rfl⟩ := kn hk 33 rfl rfl
   obtain ⟨_, hv215, rfl⟩ := kn hk 42 rfl rfl
   refine ⟨[(126, .bool true), (135, .bool true)], (ag hv214 (ag hv215 (agree_nil _))), ?_⟩
   refine WL.pick_t rfl rfl rfl rfl ?_
   exact dq hbi rfl
  intro σ β w194 hE194 hbi194 hk
  have hz194 := hE194.size
  have hbi := hbi194
  obtain ⟨_, hv195, rfl⟩ := hk 43 (by decide) _ _ rfl rfl
  refine WL.know [(136, .bool true)] (ag hv195 (agree_nil _)) ?_
  refine WL.assign rfl rfl rfl ?_
  refine WL.dn ?_
  refine WC.ret (fun a_ ha => ?_)
  exact bodyPost_tmp rfl ha rfl ⟨rfl, ((hB171.onto (hB168.onto ((hB141.onto (((((hB116.onto (((((hB93.onto (hB90.onto (((hB70.onto ((((hB53.onto (((hB39.onto (((hB26.onto (hB23.onto ((((hE2.trans hE5).trans hE8).trans hE14).trans hE20) (by omega)) (by omega)).trans hE30).trans hE36) (by omega)).trans hE44).trans hE50) (by omega)).trans hE58).trans hE61).trans hE67) (by omega)).trans hE82).trans hE84) (by omega)) (by omega)).trans hE101).trans hE104).trans hE107).trans hE113) (by omega)).trans hE126).trans hE129).trans hE132).trans hE138) (by omega)).trans hE162) (by omega)) (by omega)).trans hE194)⟩
 | true =>
  have h174 := ((hn165.bu hB168).bu hB171)
  have h175 := ((hn166.bu hB168).bu hB171)
  have h176 := (hB171.row (hB168.row (h148.ext hE162) (by omega)) (by omega))
  have h177 := (((h149.ext hE162).bu hB168).bu hB171)
  have h178 := (hB171.row (hB168.row (h150.ext hE162) (by omega)) (by omega))
  have h179 := (((h151.ext hE162).bu hB168).bu hB171)
  have h180 := (hB171.row (hB168.row (h152.ext hE162) (by omega)) (by omega))
  have h181 := (((h153.ext hE162).bu hB168).bu hB171)
  have h182 := (hB171.row (hB168.row (h154.ext hE162) (by omega)) (by omega))
  have h183 := (((h155.ext hE162).bu hB168).bu hB171)
  have h184 := (hB171.row (hB168.row (h156.ext hE162) (by omega)) (by omega))
  have h185 := (((h157.ext hE162).bu hB168).bu hB171)
  have h186 := (hB171.row (hB168.row (h158.ext hE162) (by omega)) (by omega))
  have h187 := (((h143.ext hE162).bu hB168).bu hB171)
  have h188 := (hB171.row (hB168.row (h159.ext hE162) (by omega)) (by omega))
  have h189 := (((h144.ext hE162).bu hB168).bu hB171)
  have h190 := (hB171.row (hB168.row (h160.ext hE162) (by omega)) (by omega))
  have h191 := (((h161.ext hE162).bu hB168).bu hB171)
  have h192 := (hB171.row (hB168.row (hR140.ext hE162) (by omega)) (by omega))
  have h193 := (((h147.ext hE162).bu hB168).bu hB171)
  refine WC.weaken (r' := [(4, .bool false), (22, .bool false), (5, pt b10 0), (6, pt b16 0), (66, .bool false), (15, pt b109 0), (16, .int .i64 0), (17, pt b134 0), (18, .int .i64 0), (19, pt b163 0), (20, pt b164 0)]) (sr rfl (sr rfl (sr rfl (sr rfl (sr rfl (sr rfl (sr rfl (sr rfl (sr rfl (sr rfl (sr rfl (subReg_nil _)))))))))))) ?_
  refine WC.draw 44 [93, 94, 95, 96, 97, 98, 99, 100, 101, 102, 103, 104, 105, 106, 107, 108, 109, 110, 111, 112, 113, 114, 115, 116, 117, 118, 119, 120, 121, 122, 123, 124, 125, 126, 127, 128, 129, 130, 131, 132, 133, 134, 135, 136] [pc (.int .i64 0), pc (.int .i64 0), pc (.int .i64 0), pc (.bool true), pc (.bool true), pc (.agg (tcells (Nd.J3 4 (Nd.norm A) (Nd.norm B)) (.slice a106 (Nd.J3 4 (Nd.norm A) (Nd.norm B)).subs.length cap106)).toArray), pc (.agg (tcells (Nd.G1 (Nd.norm A)) (.slice a165 (Nd.G1 (Nd.norm A)).subs.length cap165)).toArray), pc (.agg (tcells (Nd.G1 (Nd.norm B)) (.slice a166 (Nd.G1 (Nd.norm B)).subs.length cap166)).toArray), pc (.agg (tcells (Nd.G1 (Nd.norm A)) (.slice a165 (Nd.G1 (Nd.norm A)).subs.length cap165)).toArray), pnodes (fun _ => True) ([(Nd.G1 (Nd.norm A)), (Nd.G1 (Nd.norm B)), (Nd.G1 (Nd.norm A))]), pnode (fun k => w172.heap.size ≤ k) (Nd.J3 4 (Nd.norm A) (Nd.norm B)), pc (.bool true), pc (.bool true), pc (.bool true), pc (.agg (tcells (Nd.J3 3 (Nd.norm A) (Nd.norm B)) (.slice a131 (Nd.J3 3 (Nd.norm A) (Nd.norm B)).subs.length cap131)).toArray), pc (.agg (tcells (Nd.G1 (Nd.norm A)) (.slice a165 (Nd.G1 (Nd.norm A)).subs.length cap165)).toArray), pc (.agg (tcells (Nd.G1 (Nd.norm B)) (.slice a166 (Nd.G1 (Nd.norm B)).subs.length cap166)).toArray), pc (.agg (tcells (Nd.G1 (Nd.norm A)) (.slice a165 (Nd.G1 (Nd.norm A)).subs.length cap165)).toArray), pnodes (fun _ => True) ([(Nd.G1 (Nd.norm A)), (Nd.G1 (Nd.norm B)), (Nd.G1 (Nd.norm A))]), pnode (fun k => w172.heap.size ≤ k) (Nd.J3 3 (Nd.norm A) (Nd.norm B)), pc (.bool true), pc (.bool true), pc (.bool true), pc (.agg (tcells (Nd.J3 3 (Nd.norm A) (Nd.norm B)) (.slice a131 (Nd.J3 3 (Nd.norm A) (Nd.norm B)).subs.length cap131)).toArray), pc (.bool (Nd.clean (Nd.J3 3 (Nd.norm A) (Nd.norm B)) && Nd.nullable (Nd.J3 3 (Nd.norm A) (Nd.norm B)))), pc (.agg (tcells A (.slice a4 A.subs.length cap4)).toArray), pc (.bool true), pc (.bool true), pc (.agg (tcells B (.slice a7 B.subs.length cap7)).toArray), pc (.bool (Nd.clean B && Nd.nullable B)), pc (.bool (Nd.clean B && Nd.nullable B)), pc (.bool true), pc (.bool true), pc (.bool true), pc (.agg (tcells (Nd.J3 4 (Nd.norm A) (Nd.norm B)) (.slice a106 (Nd.J3 4 (Nd.norm A) (Nd.norm B)).subs.length cap106)).toArray), pc (.bool (Nd.clean (Nd.J3 4 (Nd.norm A) (Nd.norm B)) && Nd.nullable (Nd.J3 4 (Nd.norm A) (Nd.norm B)))), pc (.agg (tcells A (.slice a4 A.subs.length cap4)).toArray), pc (.bool true), pc (.bool true), pc (undef), pc (undef), pc (.bool true), pc (.bool true), pc (.bool true)] (by kernel_rfl) (by kernel_rfl) ⟨KW_pc _, KW_pc _, KW_pc _, KW_pc _, KW_pc _, KW_pc _, KW_pc _, KW_pc _, KW_pc _, KW_pnodes _ _, KW_pnode _ _, KW_pc _, KW_pc _, KW_pc _, KW_pc _, KW_pc _, KW_pc _, KW_pc _, KW_pnodes _ _, KW_pnode _ _, KW_pc _, KW_pc _, KW_pc _, KW_pc _, KW_pc _, KW_pc _, KW_pc _, KW_pc _, KW_pc _, KW_pc _, KW_pc _, KW_pc _, KW_pc _, KW_pc _, KW_pc _, KW_pc _, KW_pc _, KW_pc _, KW_pc _, KW_pc _, KW_pc _, KW_pc _, KW_pc _, KW_pc _, trivial⟩ rfl rfl rfl (sc ?_ (sc ?_ (sc ?_ (sc ?_ (sc ?_ (sc ?_ (sc ?_ (sc ?_ (sc ?_ (sc ?_ (sc ?_ (sc ?_ (sc ?_ (sc ?_ (sc ?_ (sc ?_ (sc ?_ (sc ?_ (sc ?_ (sc ?_ (sc ?_ (sc ?_ (sc ?_ (sc ?_ (sc ?_ (sc ?_ (sc ?_ (sc ?_ (sc ?_ (sc ?_ (sc ?_ (sc ?_ (sc ?_ (sc ?_ (sc ?_ (sc ?_ (sc ?_ (sc ?_ (sc ?_ (sc ?_ (sc ?_ (sc ?_ (sc ?_ (sc ?_ (StepsOn.nil _))))))))))))))))))))))))))))))))))))))))))))) ?_
  ·intro σ β w1 hE1 hbi hk
   have hz1 := hE1.size
   refine ⟨[], (agree_nil _), ?_⟩
   refine WL.move rfl rfl rfl ?_
   exact dq hbi rfl
  ·intro σ β w1 hE1 hbi hk
   have hz1 := hE1.size
   refine ⟨[], (agree_nil _), ?_⟩
   refine WL.move rfl rfl rfl ?_
   exact dq hbi rfl
  ·intro σ β w1 hE1 hbi hk
   have hz1 := hE1.size
   obtain ⟨_, hv214, rfl⟩ := kn hk 0 rfl rfl
   obtain ⟨_, hv215, rfl⟩ := kn hk 1 rfl rfl
   refine ⟨[(93, .int .i64 0), (94, .int .i64 0)], (ag hv214 (ag hv215 (agree_nil _))), ?_⟩
   refine WL.add (v := 0) rfl rfl rfl rfl (by decide) ?_
   exact dq hbi rfl
  ·intro σ β w1 hE1 hbi hk
   have hz1 := hE1.size
   obtain ⟨_, hv214, rfl⟩ := kn hk 2 rfl rfl
   refine ⟨[(95, .int .i64 0)], (ag hv214 (agree_nil _)), ?_⟩
   refine WL.eql rfl rfl rfl rfl rfl ?_
   exact dq hbi rfl
  ·intro σ β w1 hE1 hbi hk
   have hz1 := hE1.size
   obtain ⟨_, hv214, rfl⟩ := kn hk 3 rfl rfl
   refine ⟨[(96, .bool true)], (ag hv214 (agree_nil _)), ?_⟩
   refine WL.move rfl rfl rfl ?_
   exact dq hbi rfl
  ·intro σ β w1 hE1 hbi hk
   have hz1 := hE1.size
   obtain ⟨_, hv214, rfl⟩ := kn hk 4 rfl rfl
   refine ⟨[(97, .bool true)], (ag hv214 (agree_nil _)), ?_⟩
   refine WL.load_box rfl rfl rfl (h190.ext hE1) Ty.agg30 ?_
   exact dq hbi rfl
  ·intro σ β w1 hE1 hbi hk
   have hz1 := hE1.size
   obtain ⟨_, hv214, rfl⟩ := kn hk 4 rfl rfl
   refine ⟨[(97, .bool true)], (ag hv214 (agree_nil _)), ?_⟩
   have h215 := ((hB171.row hR167 (by omega)).ext hE1)
   refine WL.load_box rfl rfl rfl h215 Ty.agg30 ?_
   exact dq hbi rfl
  ·intro σ β w1 hE1 hbi hk
   have hz1 := hE1.size
   obtain ⟨_, hv214, rfl⟩ := kn hk 4 rfl rfl
   refine ⟨[(97, .bool true)], (ag hv214 (agree_nil _)), ?_⟩
   refine WL.load_box rfl rfl rfl (hR170.ext hE1) Ty.agg30 ?_
   exact dq hbi rfl
  ·intro σ β w1 hE1 hbi hk
   have hz1 := hE1.size
   obtain ⟨_, hv214, rfl⟩ := kn hk 4 rfl rfl
   refine ⟨[(97, .bool true)], (ag hv214 (agree_nil _)), ?_⟩
   have h215 := ((hB171.row hR167 (by omega)).ext hE1)
   refine WL.load_box rfl rfl rfl h215 Ty.agg30 ?_
   exact dq hbi rfl
  ·intro σ β w1 hE1 hbi hk
   have hz1 := hE1.size
   obtain ⟨_, hv214, rfl⟩ := kn hk 4 rfl rfl
   obtain ⟨_, hv215, rfl⟩ := kn hk 6 rfl rfl
   obtain ⟨_, hv216, rfl⟩ := kn hk 7 rfl rfl
   obtain ⟨_, hv217, rfl⟩ := kn hk 8 rfl rfl
   refine ⟨[(97, .bool true), (99, .agg (tcells (Nd.G1 (Nd.norm A)) (.slice a165 (Nd.G1 (Nd.norm A)).subs.length cap165)).toArray), (100, .agg (tcells (Nd.G1 (Nd.norm B)) (.slice a166 (Nd.G1 (Nd.norm B)).subs.length cap166)).toArray), (101, .agg (tcells (Nd.G1 (Nd.norm A)) (.slice a165 (Nd.G1 (Nd.norm A)).subs.length cap165)).toArray)], (ag hv214 (ag hv215 (ag hv216 (ag hv217 (agree_nil _))))), ?_⟩
   refine WL.buildSlice (vs := [.agg (tcells (Nd.G1 (Nd.norm A)) (.slice a165 (Nd.G1 (Nd.norm A)).subs.length cap165)).toArray, .agg (tcells (Nd.G1 (Nd.norm B)) (.slice a166 (Nd.G1 (Nd.norm B)).subs.length cap166)).toArray, .agg (tcells (Nd.G1 (Nd.norm A)) (.slice a165 (Nd.G1 (Nd.norm A)).subs.length cap165)).toArray]) (cells := (tcells (Nd.G1 (Nd.norm A)) (.slice a165 (Nd.G1 (Nd.norm A)).subs.length cap165) ++ tcells (Nd.G1 (Nd.norm B)) (.slice a166 (Nd.G1 (Nd.norm B)).subs.length cap166) ++ tcells (Nd.G1 (Nd.norm A)) (.slice a165 (Nd.G1 (Nd.norm A)).subs.length cap165))) rfl rfl Ty.slice24 Ty.zero30 rfl rfl rfl rfl rfl rfl (fun b218 w223 hb219 hE222 hs220 hR221 => ?_)
   have hts218 := (NodesV.lit (n := 3) (ts := [(Nd.G1 (Nd.norm A)), (Nd.G1 (Nd.norm B)), (Nd.G1 (Nd.norm A))]) hR221 (RowsL.cons ((h174.ext hE1).ext hE222) (RowsL.cons ((h175.ext hE1).ext hE222) (RowsL.cons ((h174.ext hE1).ext hE222) (RowsL.nil' _)))) rfl rfl (by decide)).lt
   exact dqE hbi hE222 ⟨_, _, rfl, (hts218.dom (by intro k h1; refine ⟨trivial, ?_, h1.2⟩; replace h1 := h1.1; intro x hxm; have hi := hbi.hi x hxm; have lo := hbi.lo x hxm; (try dsimp only at h1); (repeat' first | (guard_hyp h1 : _ ∨ _; refine Or.elim h1 (fun h1 => ?_) (fun h1 => ?_)) | (guard_hyp h1 : _ ∧ _; have hx := h1.2; replace h1 := h1.1)) <;> first | contradiction | omega | exact hx.1 x hxm))⟩
  ·intro σ β w1 hE1 hbi hk
   have hz1 := hE1.size
   obtain ⟨_, hv214, rfl⟩ := kn hk 4 rfl rfl
   obtain ⟨_, hv215, a215, cap215, rfl, hts215⟩ := kn hk 9 rfl rfl
   have hts215 := hts215.lt
   have hlen215 := hts215.len
   refine ⟨[(97, .bool true), (102, .slice a215 (([(Nd.G1 (Nd.norm A)), (Nd.G1 (Nd.norm B)), (Nd.G1 (Nd.norm A))]).length) cap215)], (ag hv214 (ag hv215 (agree_nil _))), ?_⟩
   refine WL.call rfl rfl rfl Ty.ent10 (or_ok _ _ _ _ ([(Nd.G1 (Nd.norm A)), (Nd.G1 (Nd.norm B)), (Nd.G1 (Nd.norm A))]) hts215 (Nat.le_of_ble_eq_true rfl)) ?_
   rintro _ w218 ⟨l216, rfl, hr216, hE217⟩
   have hzhE217 := hE217.size
   refine ⟨_, rfl, ?_⟩
   rw [Nd.r_or hsA.norm hsB.norm] at hr216
   have hn216 := hr216.lt
   obtain ⟨a216, cap216, rfl, hts216, hlen216⟩ := hn216.op2
   exact dqE hbi hE217 ⟨_, rfl, (hr216.off0 hbi (fun k hk => Nat.le_trans hE1.size hk))⟩
  ·intro σ β w1 hE1 hbi hk
   have hz1 := hE1.size
   obtain ⟨_, hv214, rfl⟩ := kn hk 4 rfl rfl
   obtain ⟨_, hv215, rfl⟩ := kn hk 5 rfl rfl
   obtain ⟨_, hv216, l216, rfl, hn216⟩ := kn hk 10 rfl rfl
   have hn216 := hn216.lt
   obtain ⟨a216, cap216, rfl, hts216, hlen216⟩ := hn216.op2
   refine ⟨[(97, .bool true), (98, .agg (tcells (Nd.J3 4 (Nd.norm A) (Nd.norm B)) (.slice a106 (Nd.J3 4 (Nd.norm A) (Nd.norm B)).subs.length cap106)).toArray), (103, .agg (tcells (Nd.J3 4 (Nd.norm A) (Nd.norm B)) (.slice a216 (Nd.J3 4 (Nd.norm A) (Nd.norm B)).subs.length cap216)).toArray)], (ag hv214 (ag hv215 (ag hv216 (agree_nil _)))), ?_⟩
   refine WL.call rfl rfl rfl Ty.ent11 (Same_ok _ _ _ _ _ (Nd.J3 4 (Nd.norm A) (Nd.norm B)) (Nd.J3 4 (Nd.norm A) (Nd.norm B)) (h191.ext hE1) hn216) ?_
   rintro _ w218 ⟨he, hE217⟩
   have hq : (Nd.light (Nd.J3 4 (Nd.norm A) (Nd.norm B)) && Nd.light (Nd.J3 4 (Nd.norm A) (Nd.norm B)) && Nd.same (Nd.J3 4 (Nd.norm A) (Nd.norm B)) (Nd.J3 4 (Nd.norm A) (Nd.norm B))) = true := (Nd.Same_self (Nd.r_ok4 hsA.norm hsB.norm).1.light)
   rw [hq] at he
   subst he
   clear hq
   have hzhE217 := hE217.size
   refine ⟨_, rfl, ?_⟩
   exact dqE hbi hE217 rfl
  ·intro σ β w1 hE1 hbi hk
   have hz1 := hE1.size
   obtain ⟨_, hv214, rfl⟩ := kn hk 4 rfl rfl
   obtain ⟨_, hv215, rfl⟩ := kn hk 11 rfl rfl
   refine ⟨[(97, .bool true), (104, .bool true)], (ag hv214 (ag hv215 (agree_nil _))), ?_⟩
   refine WL.pick_t rfl rfl rfl rfl ?_
   exact dq hbi rfl
  ·intro σ β w1 hE1 hbi hk
   have hz1 := hE1.size
   obtain ⟨_, hv214, rfl⟩ := kn hk 12 rfl rfl
   refine ⟨[(105, .bool true)], (ag hv214 (agree_nil _)), ?_⟩
   refine WL.move rfl rfl rfl ?_
   exact dq hbi rfl
  ·intro σ β w1 hE1 hbi hk
   have hz1 := hE1.size
   obtain ⟨_, hv214, rfl⟩ := kn hk 13 rfl rfl
   refine ⟨[(106, .bool true)], (ag hv214 (agree_nil _)), ?_⟩
   refine WL.load_box rfl rfl rfl (h192.ext hE1) Ty.agg30 ?_
   exact dq hbi rfl
  ·intro σ β w1 hE1 hbi hk
   have hz1 := hE1.size
   obtain ⟨_, hv214, rfl⟩ := kn hk 13 rfl rfl
   refine ⟨[(106, .bool true)], (ag hv214 (agree_nil _)), ?_⟩
   have h215 := ((hB171.row hR167 (by omega)).ext hE1)
   refine WL.load_box rfl rfl rfl h215 Ty.agg30 ?_
   exact dq hbi rfl
  ·intro σ β w1 hE1 hbi hk
   have hz1 := hE1.size
   obtain ⟨_, hv214, rfl⟩ := kn hk 13 rfl rfl
   refine ⟨[(106, .bool true)], (ag hv214 (agree_nil _)), ?_⟩
   refine WL.load_box rfl rfl rfl (hR170.ext hE1) Ty.agg30 ?_
   exact dq hbi rfl
  ·intro σ β w1 hE1 hbi hk
   have hz1 := hE1.size
   obtain ⟨_, hv214, rfl⟩ := kn hk 13 rfl rfl
   refine ⟨[(106, .bool true)], (ag hv214 (agree_nil _)), ?_⟩
   have h215 := ((hB171.row hR167 (by omega)).ext hE1)
   refine WL.load_box rfl rfl rfl h215 Ty.agg30 ?_
   exact dq hbi rfl
  ·intro σ β w1 hE1 hbi hk
   have hz1 := hE1.size
   obtain ⟨_, hv214, rfl⟩ := kn hk 13 rfl rfl
   obtain ⟨_, hv215, rfl⟩ := kn hk 15 rfl rfl
   obtain ⟨_, hv216, rfl⟩ := kn hk 16 rfl rfl
   obtain ⟨_, hv217, rfl⟩ := kn hk 17 rfl rfl
   refine ⟨[(106, .bool true), (108, .agg (tcells (Nd.G1 (Nd.norm A)) (.slice a165 (Nd.G1 (Nd.norm A)).subs.length cap165)).toArray), (109, .agg (tcells (Nd.G1 (Nd.norm B)) (.slice a166 (Nd.G1 (Nd.norm B)).subs.length cap166)).toArray), (110, .agg (tcells (Nd.G1 (Nd.norm A)) (.slice a165 (Nd.G1 (Nd.norm A)).subs.length cap165)).toArray)], (ag hv214 (ag hv215 (ag hv216 (ag hv217 (agree_nil _))))), ?_⟩
   refine WL.buildSlice (vs := [.agg (tcells (Nd.G1 (Nd.norm A)) (.slice a165 (Nd.G1 (Nd.norm A)).subs.length cap165)).toArray, .agg (tcells (Nd.G1 (Nd.norm B)) (.slice a166 (Nd.G1 (Nd.norm B)).subs.length cap166)).toArray, .agg (tcells (Nd.G1 (Nd.norm A)) (.slice a165 (Nd.G1 (Nd.norm A)).subs.length cap165)).toArray]) (cells := (tcells (Nd.G1 (Nd.norm A)) (.slice a165 (Nd.G1 (Nd.norm A)).subs.length cap165) ++ tcells (Nd.G1 (Nd.norm B)) (.slice a166 (Nd.G1 (Nd.norm B)).subs.length cap166) ++ tcells (Nd.G1 (Nd.norm A)) (.slice a165 (Nd.G1 (Nd.norm A)).subs.length cap165))) rfl rfl Ty.slice24 Ty.zero30 rfl rfl rfl rfl rfl rfl (fun b218 w223 hb219 hE222 hs220 hR221 => ?_)
   have hts218 := (NodesV.lit (n := 3) (ts := [(Nd.G1 (Nd.norm A)), (Nd.G1 (Nd.norm B)), (Nd.G1 (Nd.norm A))]) hR221 (RowsL.cons ((h174.ext hE1).ext hE222) (RowsL.cons ((h175.ext hE1).ext hE222) (RowsL.cons ((h174.ext hE1).ext hE222) (RowsL.nil' _)))) rfl rfl (by decide)).lt
   exact dqE hbi hE222 ⟨_, _, rfl, (hts218.dom (by intro k h1; refine ⟨trivial, ?_, h1.2⟩; replace h1 := h1.1; intro x hxm; have hi := hbi.hi x hxm; have lo := hbi.lo x hxm; (try dsimp only at h1); (repeat' first | (guard_hyp h1 : _ ∨ _; refine Or.elim h1 (fun h1 => ?_) (fun h1 => ?_)) | (guard_hyp h1 : _ ∧ _; have hx := h1.2; replace h1 := h1.1)) <;> first | contradiction | omega | exact hx.1 x hxm))⟩
  ·intro σ β w1 hE1 hbi hk
   have hz1 := hE1.size
   obtain ⟨_, hv214, rfl⟩ := kn hk 13 rfl rfl
   obtain ⟨_, hv215, a215, cap215, rfl, hts215⟩ := kn hk 18 rfl rfl
   have hts215 := hts215.lt
   have hlen215 := hts215.len
   refine ⟨[(106, .bool true), (111, .slice a215 (([(Nd.G1 (Nd.norm A)), (Nd.G1 (Nd.norm B)), (Nd.G1 (Nd.norm A))]).length) cap215)], (ag hv214 (ag hv215 (agree_nil _))), ?_⟩
   refine WL.call rfl rfl rfl Ty.ent15 (seq_ok _ _ _ _ ([(Nd.G1 (Nd.norm A)), (Nd.G1 (Nd.norm B)), (Nd.G1 (Nd.norm A))]) hts215 (Nat.le_of_ble_eq_true rfl)) ?_
   rintro _ w218 ⟨l216, rfl, hr216, hE217⟩
   have hzhE217 := hE217.size
   refine ⟨_, rfl, ?_⟩
   rw [Nd.r_seq hsA.norm hsB.norm] at hr216
   have hn216 := hr216.lt
   obtain ⟨a216, cap216, rfl, hts216, hlen216⟩ := hn216.op2
   exact dqE hbi hE217 ⟨_, rfl, (hr216.off0 hbi (fun k hk => Nat.le_trans hE1.size hk))⟩
  ·intro σ β w1 hE1 hbi hk
   have hz1 := hE1.size
   obtain ⟨_, hv214, rfl⟩ := kn hk 13 rfl rfl
   obtain ⟨_, hv215, rfl⟩ := kn hk 14 rfl rfl
   obtain ⟨_, hv216, l216, rfl, hn216⟩ := kn hk 19 rfl rfl
   have hn216 := hn216.lt
   obtain ⟨a216, cap216, rfl, hts216, hlen216⟩ := hn216.op2
   refine ⟨[(106, .bool true), (107, .agg (tcells (Nd.J3 3 (Nd.norm A) (Nd.norm B)) (.slice a131 (Nd.J3 3 (Nd.norm A) (Nd.norm B)).subs.length cap131)).toArray), (112, .agg (tcells (Nd.J3 3 (Nd.norm A) (Nd.norm B)) (.slice a216 (Nd.J3 3 (Nd.norm A) (Nd.norm B)).subs.length cap216)).toArray)], (ag hv214 (ag hv215 (ag hv216 (agree_nil _)))), ?_⟩
   refine WL.call rfl rfl rfl Ty.ent11 (Same_ok _ _ _ _ _ (Nd.J3 3 (Nd.norm A) (Nd.norm B)) (Nd.J3 3 (Nd.norm A) (Nd.norm B)) (h193.ext hE1) hn216) ?_
   rintro _ w218 ⟨he, hE217⟩
   have hq : (Nd.light (Nd.J3 3 (Nd.norm A) (Nd.norm B)) && Nd.light (Nd.J3 3 (Nd.norm A) (Nd.norm B)) && Nd.same (Nd.J3 3 (Nd.norm A) (Nd.norm B)) (Nd.J3 3 (Nd.norm A) (Nd.norm B))) = true := (Nd.Same_self (Nd.r_ok3 hsA.norm hsB.norm).1.light)
   rw [hq] at he
   subst he
   clear hq
   have hzhE217 := hE217.size
   refine ⟨_, rfl, ?_⟩
   exact dqE hbi hE217 rfl
  ·intro σ β w1 hE1 hbi hk
   have hz1 := hE1.size
   obtain ⟨_, hv214, rfl⟩ := kn hk 13 rfl rfl
   obtain ⟨_, hv215, rfl⟩ := kn hk 20 rfl rfl
   refine ⟨[(106, .bool true), (113, .bool true)], (ag hv214 (ag hv215 (agree_nil _))), ?_⟩
   refine WL.pick_t rfl rfl rfl rfl ?_
   exact dq hbi rfl
  ·intro σ β w1 hE1 hbi hk
   have hz1 := hE1.size
   obtain ⟨_, hv214, rfl⟩ := kn hk 21 rfl rfl
   refine ⟨[(114, .bool true)], (ag hv214 (agree_nil _)), ?_⟩
   refine WL.move rfl rfl rfl ?_
   exact dq hbi rfl
  ·intro σ β w1 hE1 hbi hk
   have hz1 := hE1.size
   obtain ⟨_, hv214, rfl⟩ := kn hk 22 rfl rfl
   refine ⟨[(115, .bool true)], (ag hv214 (agree_nil _)), ?_⟩
   refine WL.load_box rfl rfl rfl (h192.ext hE1) Ty.agg30 ?_
   exact dq hbi rfl
  ·intro σ β w1 hE1 hbi hk
   have hz1 := hE1.size
   obtain ⟨_, hv214, rfl⟩ := kn hk 22 rfl rfl
   obtain ⟨_, hv215, rfl⟩ := kn hk 23 rfl rfl
   refine ⟨[(115, .bool true), (116, .agg (tcells (Nd.J3 3 (Nd.norm A) (Nd.norm B)) (.slice a131 (Nd.J3 3 (Nd.norm A) (Nd.norm B)).subs.length cap131)).toArray)], (ag hv214 (ag hv215 (agree_nil _))), ?_⟩
   refine WL.call rfl rfl rfl Ty.ent14 (Nullable_ok _ _ _ (Nd.J3 3 (Nd.norm A) (Nd.norm B)) (h193.ext hE1)) ?_
   rintro _ w217 ⟨rfl, hE216⟩
   have hzhE216 := hE216.size
   refine ⟨_, rfl, ?_⟩
   exact dqE hbi hE216 rfl
  ·intro σ β w1 hE1 hbi hk
   have hz1 := hE1.size
   obtain ⟨_, hv214, rfl⟩ := kn hk 22 rfl rfl
   refine ⟨[(115, .bool true)], (ag hv214 (agree_nil _)), ?_⟩
   refine WL.load_box rfl rfl rfl (h176.ext hE1) Ty.agg30 ?_
   exact dq hbi rfl
  ·intro σ β w1 hE1 hbi hk
   have hz1 := hE1.size
   obtain ⟨_, hv214, rfl⟩ := kn hk 22 rfl rfl
   obtain ⟨_, hv215, rfl⟩ := kn hk 25 rfl rfl
   refine ⟨[(115, .bool true), (118, .agg (tcells A (.slice a4 A.subs.length cap4)).toArray)], (ag hv214 (ag hv215 (agree_nil _))), ?_⟩
   refine WL.call rfl rfl rfl Ty.ent14 (Nullable_ok _ _ _ A (h177.ext hE1)) ?_
   rintro _ w217 ⟨he, hE216⟩
   have hq : (Nd.clean A && Nd.nullable A) = true := hc173
   rw [hq] at he
   subst he
   clear hq
   have hzhE216 := hE216.size
   refine ⟨_, rfl, ?_⟩
   exact dqE hbi hE216 rfl
  ·intro σ β w1 hE1 hbi hk
   have hz1 := hE1.size
   obtain ⟨_, hv214, rfl⟩ := kn hk 22 rfl rfl
   obtain ⟨_, hv215, rfl⟩ := kn hk 26 rfl rfl
   refine ⟨[(115, .bool true), (119, .bool true)], (ag hv214 (ag hv215 (agree_nil _))), ?_⟩
   refine WL.move rfl rfl rfl ?_
   exact dq hbi rfl
  ·intro σ β w1 hE1 hbi hk
   have hz1 := hE1.size
   obtain ⟨_, hv214, rfl⟩ := kn hk 27 rfl rfl
   refine ⟨[(120, .bool true)], (ag hv214 (agree_nil _)), ?_⟩
   refine WL.load_box rfl rfl rfl (h178.ext hE1) Ty.agg30 ?_
   exact dq hbi rfl
  ·intro σ β w1 hE1 hbi hk
   have hz1 := hE1.size
   obtain ⟨_, hv214, rfl⟩ := kn hk 27 rfl rfl
   obtain ⟨_, hv215, rfl⟩ := kn hk 28 rfl rfl
   refine ⟨[(120, .bool true), (121, .agg (tcells B (.slice a7 B.subs.length cap7)).toArray)], (ag hv214 (ag hv215 (agree_nil _))), ?_⟩
   refine WL.call rfl rfl rfl Ty.ent14 (Nullable_ok _ _ _ B (h179.ext hE1)) ?_
   rintro _ w217 ⟨rfl, hE216⟩
   have hzhE216 := hE216.size
   refine ⟨_, rfl, ?_⟩
   exact dqE hbi hE216 rfl
  ·intro σ β w1 hE1 hbi hk
   have hz1 := hE1.size
   obtain ⟨_, hv214, rfl⟩ := kn hk 22 rfl rfl
   obtain ⟨_, hv215, rfl⟩ := kn hk 27 rfl rfl
   obtain ⟨_, hv216, rfl⟩ := kn hk 29 rfl rfl
   refine ⟨[(115, .bool true), (120, .bool true), (122, .bool (Nd.clean B && Nd.nullable B))], (ag hv214 (ag hv215 (ag hv216 (agree_nil _)))), ?_⟩
   refine WL.pick_t rfl rfl rfl rfl ?_
   exact dq hbi rfl
  ·intro σ β w1 hE1 hbi hk
   have hz1 := hE1.size
   obtain ⟨_, hv214, rfl⟩ := kn hk 22 rfl rfl
   obtain ⟨_, hv215, rfl⟩ := kn hk 24 rfl rfl
   obtain ⟨_, hv216, rfl⟩ := kn hk 30 rfl rfl
   refine ⟨[(115, .bool true), (117, .bool (Nd.clean (Nd.J3 3 (Nd.norm A) (Nd.norm B)) && Nd.nullable (Nd.J3 3 (Nd.norm A) (Nd.norm B)))), (123, .bool (Nd.clean B && Nd.nullable B))], (ag hv214 (ag hv215 (ag hv216 (agree_nil _)))), ?_⟩
   refine WL.eqlB (b := true) rfl rfl Try.underlying4 rfl rfl (by rw [Nd.r_t3 hsA hsB]; simp [hc173]) ?_
   exact dq hbi rfl
  ·intro σ β w1 hE1 hbi hk
   have hz1 := hE1.size
   obtain ⟨_, hv214, rfl⟩ := kn hk 22 rfl rfl
   obtain ⟨_, hv215, rfl⟩ := kn hk 31 rfl rfl
   refine ⟨[(115, .bool true), (124, .bool true)], (ag hv214 (ag hv215 (agree_nil _))), ?_⟩
   refine WL.pick_t rfl rfl rfl rfl ?_
   exact dq hbi rfl
  ·intro σ β w1 hE1 hbi hk
   have hz1 := hE1.size
   obtain ⟨_, hv214, rfl⟩ := kn hk 32 rfl rfl
   refine ⟨[(125, .bool true)], (ag hv214 (agree_nil _)), ?_⟩
   refine WL.move rfl rfl rfl ?_
   exact dq hbi rfl
  ·intro σ β w1 hE1 hbi hk
   have hz1 := hE1.size
   obtain ⟨_, hv214, rfl⟩ := kn hk 33 rfl rfl
   refine ⟨[(126, .bool true)], (ag hv214 (agree_nil _)), ?_⟩
   refine WL.load_box rfl rfl rfl (h190.ext hE1) Ty.agg30 ?_
   exact dq hbi rfl
  ·intro σ β w1 hE1 hbi hk
   have hz1 := hE1.size
   obtain ⟨_, hv214, rfl⟩ := kn hk 33 rfl rfl
   obtain ⟨_, hv215, rfl⟩ := kn hk 34 rfl rfl
   refine ⟨[(126, .bool true), (127, .agg (tcells (Nd.J3 4 (Nd.norm A) (Nd.norm B)) (.slice a106 (Nd.J3 4 (Nd.norm A) (Nd.norm B)).subs.length cap106)).toArray)], (ag hv214 (ag hv215 (agree_nil _))), ?_⟩
   refine WL.call rfl rfl rfl Ty.ent14 (Nullable_ok _ _ _ (Nd.J3 4 (Nd.norm A) (Nd.norm B)) (h191.ext hE1)) ?_
   rintro _ w217 ⟨rfl, hE216⟩
   have hzhE216 := hE216.size
   refine ⟨_, rfl, ?_⟩
   exact dqE hbi hE216 rfl
  ·intro σ β w1 hE1 hbi hk
   have hz1 := hE1.size
   obtain ⟨_, hv214, rfl⟩ := kn hk 33 rfl rfl
   refine ⟨[(126, .bool true)], (ag hv214 (agree_nil _)), ?_⟩
   refine WL.load_box rfl rfl rfl (h176.ext hE1) Ty.agg30 ?_
   exact dq hbi rfl
  ·intro σ β w1 hE1 hbi hk
   have hz1 := hE1.size
   obtain ⟨_, hv214, rfl⟩ := kn hk 33 rfl rfl
   obtain ⟨_, hv215, rfl⟩ := kn hk 36 rfl rfl
   refine ⟨[(126, .bool true), (129, .agg (tcells A (.slice a4 A.subs.length cap4)).toArray)], (ag hv214 (ag hv215 (agree_nil _))), ?_⟩
   refine WL.call rfl rfl rfl Ty.ent14 (Nullable_ok _ _ _ A (h177.ext hE1)) ?_
   rintro _ w217 ⟨he, hE216⟩
   have hq : (Nd.clean A && Nd.nullable A) = true := hc173
   rw [hq] at he
   subst he
   clear hq
   have hzhE216 := hE216.size
   refine ⟨_, rfl, ?_⟩
   exact dqE hbi hE216 rfl
  ·intro σ β w1 hE1 hbi hk
   have hz1 := hE1.size
   obtain ⟨_, hv214, rfl⟩ := kn hk 33 rfl rfl
   obtain ⟨_, hv215, rfl⟩ := kn hk 37 rfl rfl
   refine ⟨[(126, .bool true), (130, .bool true)], (ag hv214 (ag hv215 (agree_nil _))), ?_⟩
   refine WL.move rfl rfl rfl ?_
   exact dq hbi rfl
  ·intro σ β w1 hE1 hbi hk
   have hz1 := hE1.size
   obtain ⟨_, hv214, rfl⟩ := kn hk 38 rfl rfl
   refine ⟨[(131, .bool true)], (ag hv214 (agree_nil _)), ?_⟩
   refine WL.pass rfl rfl ?_
   exact dq hbi rfl
  ·intro σ β w1 hE1 hbi hk
   have hz1 := hE1.size
   obtain ⟨_, hv214, rfl⟩ := kn hk 38 rfl rfl
   obtain ⟨_, hv215, rfl⟩ := kn hk 39 rfl rfl
   refine ⟨[(131, .bool true), (132, undef)], (ag hv214 (ag hv215 (agree_nil _))), ?_⟩
   refine WL.pass rfl rfl ?_
   exact dq hbi rfl
  ·intro σ β w1 hE1 hbi hk
   have hz1 := hE1.size
   obtain ⟨_, hv214, rfl⟩ := kn hk 33 rfl rfl
   obtain ⟨_, hv215, rfl⟩ := kn hk 38 rfl rfl
   obtain ⟨_, hv216, rfl⟩ := kn hk 40 rfl rfl
   refine ⟨[(126, .bool true), (131, .bool true), (133, undef)], (ag hv214 (ag hv215 (ag hv216 (agree_nil _)))), ?_⟩
   refine WL.pick_t rfl rfl rfl rfl ?_
   exact dq hbi rfl
  ·intro σ β w1 hE1 hbi hk
   have hz1 := hE1.size
   obtain ⟨_, hv214, rfl⟩ := kn hk 33 rfl rfl
   obtain ⟨_, hv215, rfl⟩ := kn hk 35 rfl rfl
   obtain ⟨_, hv216, rfl⟩ := kn hk 41 rfl rfl
   refine ⟨[(126, .bool true), (128, .bool (Nd.clean (Nd.J3 4 (Nd.norm A) (Nd.norm B)) && Nd.nullable (Nd.J3 4 (Nd.norm A) (Nd.norm B)))), (134, .bool true)], (ag hv214 (ag hv215 (ag hv216 (agree_nil _)))), ?_⟩
   refine WL.eqlB (b := true) rfl rfl Try.underlying4 rfl rfl (by rw [Nd.r_t4 hsA hsB]; simp [hc173]) ?_
   exact dq hbi rfl
  ·intro σ β w1 hE1 hbi hk
   have hz1 := hE1.size
   obtain ⟨_, hv214, rfl⟩ := kn hk 33 rfl rfl
   obtain ⟨_, hv215, rfl⟩ := kn hk 42 rfl rfl
   refine ⟨[(126, .bool true), (135, .bool true)], (ag hv214 (ag hv215 (agree_nil _))), ?_⟩
   refine WL.pick_t rfl rfl rfl rfl ?_
   exact dq hbi rfl
  intro σ β w194 hE194 hbi194 hk
  have hz194 := hE194.size
  have hbi := hbi194
  obtain ⟨_, hv195, rfl⟩ := hk 43 (by decide) _ _ rfl rfl
  refine WL.know [(136, .bool true)] (ag hv195 (agree_nil _)) ?_
  refine WL.assign rfl rfl rfl ?_
  refine WL.dn ?_
  refine WC.ret (fun a_ ha => ?_)
  exact bodyPost_tmp rfl ha rfl ⟨rfl, ((hB171.onto (hB168.onto ((hB141.onto (((((hB116.onto (((((hB93.onto (hB90.onto (((hB70.onto ((((hB53.onto (((hB39.onto (((hB26.onto (hB23.onto ((((hE2.trans hE5).trans hE8).trans hE14).trans hE20) (by omega)) (by omega)).trans hE30).trans hE36) (by omega)).trans hE44).trans hE50) (by omega)).trans hE58).trans hE61).trans hE67) (by omega)).trans hE82).trans hE84) (by omega)) (by omega)).trans hE101).trans hE104).trans hE107).trans hE113) (by omega)).trans hE126).trans hE129).trans hE132).trans hE138) (by omega)).trans hE162) (by omega)) (by omega)).trans hE194)⟩
end Go.Proofs.Yteenegaadlhjdaa
namespace Go.Proofs.Yteenegaadlhjdaa
open Go.RowKit Go.WideShapes Go.ChangeShapes Go.Deep
section
variable {H : Type} {enc : TypeId × Value → H} {P : Program}
theorem u8_wf {n : Int} (h : (Lit.int .u8 n).wf = true) : 0 ≤ n ∧ n ≤ 255 := by
  simp only [Lit.wf, Bool.and_eq_true, decide_eq_true_eq] at h
  exact h
theorem open_small {w : World} {base : Nat} {held : Bool} {t e : TypeId} {f0 f1 f2 : Field} {fuel : Nat} {v : Value} {x : DataW H × List MemPlace} (ht : P.underlying t = some (.slice e)) (he : P.underlying e = some (.struct #[f0, f1, f2]))
    (ce : P.cellsOf e = 3) (ho : f0.offset = 0 ∧ f1.offset = 1 ∧ f2.offset = 2) (hc : P.cellsOf f0.type = 1 ∧ P.cellsOf f1.type = 1 ∧ P.cellsOf f2.type = 1)
    (hu : P.underlying f0.type = some (.int .u8) ∧ P.underlying f1.type = some (.int .u8) ∧ P.underlying f2.type = some (.int .u8))
    (h : DataW.trod enc P w base (fun _ => true) held fuel t [v] = some x) : ∃ a cap xs, v = .slice a xs.length cap ∧ SmallV (fun _ => True) w (.slice a xs.length cap) xs := by
  rcases open_slice ht h with ⟨h0, -⟩ | ⟨a, len, cap, m, n, D, Pl, h0, hb, hl, hm, hmm, -, hx⟩
  · simp only [List.cons.injEq, and_true] at h0
    subst h0
    exact ⟨none, 0, [], rfl, ⟨none, 0, rfl, by simp, .inl rfl⟩, by simp⟩
  · simp only [List.cons.injEq, and_true] at h0
    subst h0
    have hmm : m = cap := by simpa using hmm
    subst hmm
    have each : ∀ i, i < len → ∃ y : Int × Int × Int, (∀ j u, (cells3 y)[j]? = some u → w.cell? (a.add (i * 3 + j)) = some u) ∧ (0 ≤ y.1 ∧ y.1 ≤ 255) ∧ (0 ≤ y.2.1 ∧ y.2.1 ≤ 255) ∧ 0 ≤ y.2.2 ∧ y.2.2 ≤ 255 := by
      intro i hi
      obtain ⟨cs', h1, h2⟩ := hx i (by omega)
      rw [ce] at h1
      obtain ⟨_, hlen, hcell⟩ := World.cells?_some h1
      obtain ⟨ys, k, _, _, _, hyl, hf⟩ := DataW.trod_struct he h2
      match ys, hyl, cs', hlen with
      | [y0, y1, y2], _, [v0, v1, v2], _ =>
        have g0 := hf 0 f0 rfl
        have g1 := hf 1 f1 rfl
        have g2 := hf 2 f2 rfl
        simp [ho.1, ho.2.1, ho.2.2, hc.1, hc.2.1, hc.2.2] at g0 g1 g2
        obtain ⟨n0, e0, _, w0⟩ := DataW.trod_int hu.1 g0
        obtain ⟨n1, e1, _, w1⟩ := DataW.trod_int hu.2.1 g1
        obtain ⟨n2, e2, _, w2⟩ := DataW.trod_int hu.2.2 g2
        simp only [List.cons.injEq, and_true] at e0 e1 e2
        subst e0; subst e1; subst e2
        have r0 := hcell 0 (by omega)
        have r1 := hcell 1 (by omega)
        have r2 := hcell 2 (by omega)
        rw [add_add] at r0 r1 r2
        refine ⟨(n0, n1, n2), ?_, ?_, ?_, ?_⟩
        · intro j u hj
          match j with
          | 0 => simp at hj; subst hj; simpa using r0
          | 1 => simp at hj; subst hj; simpa using r1
          | 2 => simp at hj; subst hj; simpa using r2
          | j + 3 => simp at hj
        · exact u8_wf w0
        · exact u8_wf w1
        · exact u8_wf w2
    obtain ⟨X, hX⟩ := choose_lt each
    refine ⟨some a, m, (List.range len).map X, by simp, ⟨some a, m, by simp, ?_, ?_⟩, ?_⟩
    · simp only [maxLen] at hm
      simp only [List.length_map, List.length_range]; simp at hm; omega
    · by_cases h0 : len = 0
      · left; subst h0; simp
      · right
        have hsp : a.spot = none := by
          have h1 := (hX 0 (by omega)).1 0 _ rfl
          cases hs : a.spot with
          | none => rfl
          | some s =>
            rw [Nat.zero_mul, Nat.add_zero] at h1
            have hz : a.add 0 = a := by simp [Addr.add]
            rw [hz] at h1
            unfold World.cell? at h1
            rw [hs] at h1
            revert h1
            split
            · intro h1; simp at h1
            · intro h1; cases h1
        obtain ⟨b, o, s⟩ := a
        simp only at hsp
        subst hsp
        refine ⟨b, o, rfl, trivial, fun i l hl j u hj => ?_⟩
        rw [List.getElem?_map] at hl
        have hi : i < len := by
          rcases Nat.lt_or_ge i len with h | h
          · exact h
          · rw [List.getElem?_eq_none (by simpa using h)] at hl; simp at hl
        rw [List.getElem?_range hi] at hl
        simp only [Option.map_some, Option.some.injEq] at hl
        subst hl
        have := (hX i hi).1 j u hj
        rw [addr_add] at this
        rw [Nat.add_assoc]; exact this
    · intro x hx
      obtain ⟨i, hi, rfl⟩ := List.mem_map.1 hx
      exact (hX i (by simpa using hi)).2
theorem post_of_below {f : Func} {s : ChangeSpec} {apart fresh handsOn again : Bool} {W W' : World} {args : Array Value} {v : Value} {ds gs : List (DataW H)} {before pa pv : List MemPlace}
    (hW : DataW.Whole enc P f.params.toList s.vars apart W args.toList ds gs before)
    (hres : ∀ (b : Nat) (sp : Nat → Bool) (hd : Bool), DataW.TrodAll enc P W' b sp hd f.resultTypes.toList (v.resultList f.resultTypes.size) (s.fn H (ds ++ gs)).results [])
    (hargs : ∀ sp : Nat → Bool, (∀ p ∈ before, sp p.block = true) → DataW.TrodAll enc P W' 0 sp true f.params.toList args.toList (s.fn H (ds ++ gs)).args pa)
    (hvars : ∀ sp : Nat → Bool, (∀ p ∈ before, sp p.block = true) → DataW.TrodVars enc P W' sp s.vars (s.fn H (ds ++ gs)).vars pv)
    (hps : before = pa ++ pv) (hb : Below W.heap.size W W')
    (hok : ∀ (j : Nat) (t : TypeId) (r : Value), f.resultTypes[j]? = some t → (v.resultList f.resultTypes.size)[j]? = some r → Value.okWide P W' .any 0 t r) :
    s.post enc P f apart fresh handsOn again W args v W' := by
  have hlt : ∀ p ∈ before, p.block < W.heap.size := fun p hp => hW.lt p hp
  have hold : ∀ p ∈ before, (fun b => decide (b < W.heap.size)) p.block = true := fun p hp => by simpa using hlt p hp
  refine ⟨ds, gs, before, [], pa, pv, hW, hres _ _ _, hargs _ hold, hvars _ hold, World.keptBut_mono (fun p hp => ⟨hp, ?_⟩) (hb.frame (· ∈ before)), fun _ => ?_⟩
  · rw [hps, List.mem_append] at hp
    exact Or.inr hp
  · obtain ⟨_, _, _, _, _, hz, hn⟩ := hW
    refine ⟨hok, _, _, ([] ++ pa) ++ pv, ⟨[] ++ pa, pv, trodAll_append (hargs _ (fun _ _ => rfl)) (hres _ _ _), hvars _ (fun _ _ => rfl), rfl, ?_, ?_⟩, ?_⟩
    · intro b off hp
      have hin : MemPlace.cell b off ∈ before := by rw [hps]; simpa using hp
      rw [hb.frozen (hlt _ hin)]
      exact hz b off hin
    · intro ha
      have := hn ha
      rw [hps] at this
      simpa using this
    · intro p hp _
      rw [hps]
      simpa using hp
theorem stay {t : TypeId} (hl : laidOutB P = true) (hr : P.readableRec t = true) (hrow : t < P.types.size) {W W' : World} {v : Value} {d : DataW H} {ps : List MemPlace}
    (h : DataW.Trod enc P W 0 (fun _ => true) true t v d ps) (hb : Below W.heap.size W W') (hlt : ∀ x ∈ ps, x.block < W.heap.size) {sp : Nat → Bool} (hs : ∀ x ∈ ps, sp x.block = true) : DataW.Trod enc P W' 0 sp true t v d ps :=
  WideElems.Trod_stays hl hr hrow h (fun x hx => hb.same (hlt x hx)) hs
end
end Go.Proofs.Yteenegaadlhjdaa
namespace Go.Proofs.Yteenegaadlhjdaa
open Go.ChangeShapes Go.WideShapes Go.ChangeAt Go.RowKit
theorem own_rxnormParts : ownKnob Try.prog.godebug = none := by kernel_rfl
theorem laid_rxnormParts : laidOutB Try.prog = true := by kernel_rfl
set_option maxRecDepth 100000 in
theorem lifted_rxnormParts (os : Os) (started : os.Started) (H : Type) (enc : TypeId × Value → H) :
  ReturnsInHanded {} Try.checked os 4 .any (Rows.rxnormPartsSpec.pre6 enc Try.prog Try.f4 Rows.rxnormPartsRow.domain false) (Rows.rxnormPartsSpec.post enc Try.prog Try.f4 false true false false) := by
 refine returnsInHanded_of_change (C := Try.checked) own_rxnormParts started (by kernel_rfl) Try.func4
  (ChangeSpec.witness6 (enc := enc) (C := Try.checked) false ⟨#[], #[.slice none 0 0, .slice none 0 0], []⟩ 8 (by kernel_rfl) (by kernel_rfl) (by kernel_rfl) (by kernel_rfl)) ?_
 intro W base args ds gs before hval0 hW hcnd _
 have hval : ∀ (j : Nat) t v, Try.f4.params[j]? = some t → args[j]? = some v → Value.okWide Try.prog W .any base t v := hval0
 have hW' := hW
 obtain ⟨p, q, hA0, hV, rfl, hfz, hnd⟩ := hW
 have hA : DataW.TrodAll enc Try.prog W 0 (fun _ => true) true Try.f4.params.toList args.toList ds p := hA0
 rw [Try.params4] at hA hval
 obtain ⟨v0, v1, d0, d1, p0, p1, rfl, rfl, rfl, h0, h1⟩ := trodAll_two hA
 obtain ⟨rfl, rfl⟩ := trodVars_none hV
 simp only [List.append_nil, List.nil_append, List.append_assoc] at hW'
 have k0 := h0
 have hlt0 : ∀ x ∈ p0, x.block < W.heap.size := fun x hx => hW'.lt x (by simp [hx])
 obtain ⟨a0, len0, cap0, rfl⟩ := okWide_slice Try.underlying22 (hval 0 22 v0 rfl rfl)
 obtain ⟨fu0, e0⟩ := h0
 obtain ⟨b0, c0, xs0, hq0, hx0⟩ := open_small Try.underlying22 Try.underlying49 (by kernel_rfl) ⟨rfl, rfl, rfl⟩ ⟨by kernel_rfl, by kernel_rfl, by kernel_rfl⟩ ⟨Try.underlying5, Try.underlying5, Try.underlying5⟩ e0
 cases hq0
 have k1 := h1
 have hlt1 : ∀ x ∈ p1, x.block < W.heap.size := fun x hx => hW'.lt x (by simp [hx])
 obtain ⟨a1, len1, cap1, rfl⟩ := okWide_slice Try.underlying22 (hval 1 22 v1 rfl rfl)
 obtain ⟨fu1, e1⟩ := h1
 obtain ⟨b1, c1, xs1, hq1, hx1⟩ := open_small Try.underlying22 Try.underlying49 (by kernel_rfl) ⟨rfl, rfl, rfl⟩ ⟨by kernel_rfl, by kernel_rfl, by kernel_rfl⟩ ⟨Try.underlying5, Try.underlying5, Try.underlying5⟩ e1
 cases hq1
 clear hA0 hval0
 refine (RxnormParts_ok W _ _ _ _ hx0 _ _ _ _ hx1 ).mono fun e W' ⟨he, hw⟩ => ?_
 subst he
 exact ⟨_, rfl, post_of_below (pa := p0 ++ (p1)) (pv := []) hW' (fun _ _ _ => trodAll_mk1 (shut_bool Try.underlying4 true)) (fun sp hsp => trodAll_mk2 (stay laid_rxnormParts (by kernel_rfl) (of_decide_eq_true (by kernel_rfl)) k0 hw.toBelow hlt0 (fun x hx => hsp x (by simp [hx]))) (stay laid_rxnormParts (by kernel_rfl) (of_decide_eq_true (by kernel_rfl)) k1 hw.toBelow hlt1 (fun x hx => hsp x (by simp [hx])))) (fun _ _ => rfl) (by simp) hw.toBelow (ok_one (by kernel_rfl) rfl (okWide_bool_mk Try.underlying4 true))⟩
theorem rxnormParts_holds : Rows.RxnormPartsSaid :=
 OpenClaim.holds_of_wide 4 Try.f4 rfl rfl rfl rfl rfl rfl rfl ⟨rfl, rfl, rfl, rfl, rfl⟩ rfl rfl rfl rfl rfl (by kernel_rfl) Try.func4 (by kernel_rfl)
  (of_decide_eq_true (by kernel_rfl)) (by unfold Func.isWrapper; rw [if_neg (by decide +kernel)]; exact ⟨rfl, rfl⟩)
  (fun os started H enc _ => lifted_rxnormParts os started H enc)
end Go.Proofs.Yteenegaadlhjdaa
