/- Walks through the program's functions: each computes what the plain Lean function says. Printed by our own gen/r8.py. -/
import Derived.Test.YtaggidjijekpbaaJ
import Derived.Test.YtaggidjijekpbaaLawN
import Derived.Test.YtaggidjijekpbaaM3
import Derived.Test.YtaggidjijekpbaaLawO
import Derived.KernelRfl
namespace Go.Proofs.Ytaggidjijekpbaa
open Go.Proofs Go.RowKit

theorem made_at {A : Nd} {xs : List (Int × Int × Int)} (h : A = Nd.made xs) (D : Nat → Prop) (w : World) (a : Option Addr) (cap : Nat) (hxs : SmallV D w (.slice a xs.length cap) xs) :
    Calls Try.prog 9 #[.slice a xs.length cap] w fun e w' => ∃ l', e = .returned (.agg l'.toArray) ∧ NodeL (fun k => w.heap.size ≤ k) w' l' A ∧ Ext w w' := by
  subst h; exact made_ok D w a cap xs hxs
set_option maxRecDepth 20000 in
set_option maxHeartbeats 4000000 in
theorem RxOrder_ok (w : World) (Dxs : Nat → Prop) (axs : Option Addr) (capxs : Nat) (xs : List (Int × Int × Int)) (hxxs : SmallV Dxs w (.slice axs xs.length capxs) xs) (Dys : Nat → Prop) (ays : Option Addr) (capys : Nat) (ys : List (Int × Int × Int)) (hxys : SmallV Dys w (.slice ays ys.length capys) ys) (Dzs : Nat → Prop) (azs : Option Addr) (capzs : Nat) (zs : List (Int × Int × Int)) (hxzs : SmallV Dzs w (.slice azs zs.length capzs) zs) :
    Calls Try.prog 7 #[.slice axs xs.length capxs, .slice ays ys.length capys, .slice azs zs.length capzs] w fun e w' => e = .returned (.bool true) ∧ Ext w w' := by
  have hBxs : Nd.Bytes xs := fun q hq => by have := hxxs.2 q hq; omega
  obtain ⟨A, hA⟩ : ∃ T, T = Nd.made xs := ⟨_, rfl⟩
  have hmA : Nd.MadeOk A := hA ▸ Nd.made_ok' hBxs
  have hfA := hmA.fine
  have hsA := hmA.sizes
  have hpA := hmA.posns
  have hgA := hmA.groups
  have hBys : Nd.Bytes ys := fun q hq => by have := hxys.2 q hq; omega
  obtain ⟨B, hB⟩ : ∃ T, T = Nd.made ys := ⟨_, rfl⟩
  have hmB : Nd.MadeOk B := hB ▸ Nd.made_ok' hBys
  have hfB := hmB.fine
  have hsB := hmB.sizes
  have hpB := hmB.posns
  have hgB := hmB.groups
  have hBzs : Nd.Bytes zs := fun q hq => by have := hxzs.2 q hq; omega
  obtain ⟨C, hC⟩ : ∃ T, T = Nd.made zs := ⟨_, rfl⟩
  have hmC : Nd.MadeOk C := hC ▸ Nd.made_ok' hBzs
  have hfC := hmC.fine
  have hsC := hmC.sizes
  have hpC := hmC.posns
  have hgC := hmC.groups
  have hkA : A.sok = true := hA ▸ Nd.made_sok xs
  have hkB : B.sok = true := hB ▸ Nd.made_sok ys
  have hkC : C.sok = true := hC ▸ Nd.made_sok zs
  have hbd := Nd.o_bd hfA hfB hkA hkB
  have hbd2 := Nd.o_bd hfB hfA hkB hkA
  refine Calls.enter (args := [.slice axs xs.length capxs, .slice ays ys.length capys, .slice azs zs.length capzs]) Try.func7 rfl rfl rfl rfl ?_
  refine WC.seqk ?_
  refine WC.region ?_
  refine WL.assign rfl rfl rfl ?_
  refine WL.done' ?_ (fun _ _ h => h)
  refine WC.seqk ?_
  refine WC.seqk ?_
  refine WC.region ?_
  refine WL.call rfl rfl rfl Ty.ent8 (awake_ok _) ?_
  rintro _ w3 ⟨rfl, hE2⟩
  have hzhE2 := hE2.size
  refine ⟨_, rfl, ?_⟩
  refine WL.not rfl rfl rfl ?_
  refine WL.done' ?_ (fun _ _ h => h)
  refine WC.cond_f rfl ?_
  refine WC.skip'' ?_ (fun _ _ h => h)
  refine WC.seqk ?_
  refine WC.region ?_
  refine WL.move rfl rfl rfl ?_
  refine WL.call rfl rfl rfl Ty.ent9 (made_at hA _ _ _ _ (hxxs.ext hE2)) ?_
  rintro _ w6 ⟨l4, rfl, hr4, hE5⟩
  have hzhE5 := hE5.size
  refine ⟨_, rfl, ?_⟩
  have hn4 := hr4.lt
  obtain ⟨sl4, rfl, hts4⟩ := hn4.opn
  obtain ⟨a4, cap4, rfl, hlen4, -⟩ := hts4.get
  refine WL.move rfl rfl rfl ?_
  refine WL.call rfl rfl rfl Ty.ent9 (made_at hB _ _ _ _ (hxys.ext (hE2.trans hE5))) ?_
  rintro _ w9 ⟨l7, rfl, hr7, hE8⟩
  have hzhE8 := hE8.size
  refine ⟨_, rfl, ?_⟩
  have hn7 := hr7.lt
  obtain ⟨sl7, rfl, hts7⟩ := hn7.opn
  obtain ⟨a7, cap7, rfl, hlen7, -⟩ := hts7.get
  refine WL.move rfl rfl rfl ?_
  refine WL.call rfl rfl rfl Ty.ent9 (made_at hC _ _ _ _ (hxzs.ext ((hE2.trans hE5).trans hE8))) ?_
  rintro _ w12 ⟨l10, rfl, hr10, hE11⟩
  have hzhE11 := hE11.size
  refine ⟨_, rfl, ?_⟩
  have hn10 := hr10.lt
  obtain ⟨sl10, rfl, hts10⟩ := hn10.opn
  obtain ⟨a10, cap10, rfl, hlen10, -⟩ := hts10.get
  refine WL.alloc rfl rfl Ty.zero29 rfl (fun b13 w18 hb14 hE17 hs15 hR16 => ?_)
  refine WL.alloc rfl rfl Ty.zero29 rfl (fun b19 w24 hb20 hE23 hs21 hR22 => ?_)
  refine WL.alloc rfl rfl Ty.zero29 rfl (fun b25 w30 hb26 hE29 hs27 hR28 => ?_)
  have h33 := ((hR16.ext hE23).ext hE29)
  refine WL.store_box rfl rfl rfl h33 Ty.agg29 rfl rfl (fun w34 hB32 hR31 => ?_)
  have hzhB32 := hB32.size
  have h37 := (hB32.row (hR22.ext hE29) (by omega))
  refine WL.store_box rfl rfl rfl h37 Ty.agg29 rfl rfl (fun w38 hB36 hR35 => ?_)
  have hzhB36 := hB36.size
  have h41 := (hB36.row (hB32.row hR28 (by omega)) (by omega))
  refine WL.store_box rfl rfl rfl h41 Ty.agg29 rfl rfl (fun w42 hB40 hR39 => ?_)
  have hzhB40 := hB40.size
  refine WL.done' ?_ (fun _ _ h => h)
  refine WC.seqk ?_
  have h43 := ((((((((hn4.ext hE8).ext hE11).ext hE17).ext hE23).ext hE29).but hB32 (by intro h1; first | omega | ((try dsimp only at h1); (repeat' first | (guard_hyp h1 : _ ∨ _; refine Or.elim h1 (fun h1 => ?_) (fun h1 => ?_)) | (guard_hyp h1 : _ ∧ _; have hx := h1.2; replace h1 := h1.1)) <;> first | contradiction | omega))).but hB36 (by intro h1; first | omega | ((try dsimp only at h1); (repeat' first | (guard_hyp h1 : _ ∨ _; refine Or.elim h1 (fun h1 => ?_) (fun h1 => ?_)) | (guard_hyp h1 : _ ∧ _; have hx := h1.2; replace h1 := h1.1)) <;> first | contradiction | omega))).but hB40 (by intro h1; first | omega | ((try dsimp only at h1); (repeat' first | (guard_hyp h1 : _ ∨ _; refine Or.elim h1 (fun h1 => ?_) (fun h1 => ?_)) | (guard_hyp h1 : _ ∧ _; have hx := h1.2; replace h1 := h1.1)) <;> first | contradiction | omega)))
  have h44 := (((((((hn7.ext hE11).ext hE17).ext hE23).ext hE29).but hB32 (by intro h1; first | omega | ((try dsimp only at h1); (repeat' first | (guard_hyp h1 : _ ∨ _; refine Or.elim h1 (fun h1 => ?_) (fun h1 => ?_)) | (guard_hyp h1 : _ ∧ _; have hx := h1.2; replace h1 := h1.1)) <;> first | contradiction | omega))).but hB36 (by intro h1; first | omega | ((try dsimp only at h1); (repeat' first | (guard_hyp h1 : _ ∨ _; refine Or.elim h1 (fun h1 => ?_) (fun h1 => ?_)) | (guard_hyp h1 : _ ∧ _; have hx := h1.2; replace h1 := h1.1)) <;> first | contradiction | omega))).but hB40 (by intro h1; first | omega | ((try dsimp only at h1); (repeat' first | (guard_hyp h1 : _ ∨ _; refine Or.elim h1 (fun h1 => ?_) (fun h1 => ?_)) | (guard_hyp h1 : _ ∧ _; have hx := h1.2; replace h1 := h1.1)) <;> first | contradiction | omega)))
  have h45 := ((((((hn10.ext hE17).ext hE23).ext hE29).but hB32 (by intro h1; first | omega | ((try dsimp only at h1); (repeat' first | (guard_hyp h1 : _ ∨ _; refine Or.elim h1 (fun h1 => ?_) (fun h1 => ?_)) | (guard_hyp h1 : _ ∧ _; have hx := h1.2; replace h1 := h1.1)) <;> first | contradiction | omega))).but hB36 (by intro h1; first | omega | ((try dsimp only at h1); (repeat' first | (guard_hyp h1 : _ ∨ _; refine Or.elim h1 (fun h1 => ?_) (fun h1 => ?_)) | (guard_hyp h1 : _ ∧ _; have hx := h1.2; replace h1 := h1.1)) <;> first | contradiction | omega))).but hB40 (by intro h1; first | omega | ((try dsimp only at h1); (repeat' first | (guard_hyp h1 : _ ∨ _; refine Or.elim h1 (fun h1 => ?_) (fun h1 => ?_)) | (guard_hyp h1 : _ ∧ _; have hx := h1.2; replace h1 := h1.1)) <;> first | contradiction | omega)))
  have h46 := (hB40.row (hB36.row hR31 (by omega)) (by omega))
  refine WC.weaken (r' := [(0, .slice axs xs.length capxs), (6, .bool false), (17, .bool false), (7, .pointer (some ⟨b13, 0, none⟩)), (8, .pointer (some ⟨b19, 0, none⟩)), (9, .pointer (some ⟨b25, 0, none⟩))]) (subReg_cons rfl (subReg_cons rfl (subReg_cons rfl (subReg_cons rfl (subReg_cons rfl (subReg_cons rfl (subReg_nil _))))))) ?_
  refine WC.draw 11 [24, 25, 26, 27, 28, 29, 30, 31, 32, 33, 34] [pc (.agg #[.int .u8 A.kind, .int .u64 A.set.a, .int .u64 A.set.b, .int .u64 A.set.c, .int .u64 A.set.d, .int .i64 A.least, .int .i64 A.most, .slice a4 A.subs.length cap4]), pc (.agg #[.int .u8 B.kind, .int .u64 B.set.a, .int .u64 B.set.b, .int .u64 B.set.c, .int .u64 B.set.d, .int .i64 B.least, .int .i64 B.most, .slice a7 B.subs.length cap7]), pc (.int .i64 (Nd.compare A B)), pc (.agg #[.int .u8 B.kind, .int .u64 B.set.a, .int .u64 B.set.b, .int .u64 B.set.c, .int .u64 B.set.d, .int .i64 B.least, .int .i64 B.most, .slice a7 B.subs.length cap7]), pc (.agg #[.int .u8 A.kind, .int .u64 A.set.a, .int .u64 A.set.b, .int .u64 A.set.c, .int .u64 A.set.d, .int .i64 A.least, .int .i64 A.most, .slice a4 A.subs.length cap4]), pc (.int .i64 (Nd.compare B A)), pc (.agg #[.int .u8 B.kind, .int .u64 B.set.a, .int .u64 B.set.b, .int .u64 B.set.c, .int .u64 B.set.d, .int .i64 B.least, .int .i64 B.most, .slice a7 B.subs.length cap7]), pc (.agg #[.int .u8 C.kind, .int .u64 C.set.a, .int .u64 C.set.b, .int .u64 C.set.c, .int .u64 C.set.d, .int .i64 C.least, .int .i64 C.most, .slice a10 C.subs.length cap10]), pc (.int .i64 (Nd.compare B C)), pc (.agg #[.int .u8 A.kind, .int .u64 A.set.a, .int .u64 A.set.b, .int .u64 A.set.c, .int .u64 A.set.d, .int .i64 A.least, .int .i64 A.most, .slice a4 A.subs.length cap4]), pc (.agg #[.int .u8 C.kind, .int .u64 C.set.a, .int .u64 C.set.b, .int .u64 C.set.c, .int .u64 C.set.d, .int .i64 C.least, .int .i64 C.most, .slice a10 C.subs.length cap10])] (by kernel_rfl) (by kernel_rfl) ⟨KW_pc _, KW_pc _, KW_pc _, KW_pc _, KW_pc _, KW_pc _, KW_pc _, KW_pc _, KW_pc _, KW_pc _, KW_pc _, trivial⟩ rfl rfl rfl (StepsOn.cons ?_ (StepsOn.cons ?_ (StepsOn.cons ?_ (StepsOn.cons ?_ (StepsOn.cons ?_ (StepsOn.cons ?_ (StepsOn.cons ?_ (StepsOn.cons ?_ (StepsOn.cons ?_ (StepsOn.cons ?_ (StepsOn.cons ?_ (StepsOn.nil _)))))))))))) ?_
  · intro σ β w1 hE1 hbi hk
    have hz1 := hE1.size
    refine ⟨[], (agree_nil _), ?_⟩
    refine WL.load_box rfl rfl rfl (h46.ext hE1) Ty.agg29 ?_
    refine WL.nil (fun a_ ha => ?_)
    exact ⟨_, β, ha, (Ext.refl _), BExt.refl _ _, hbi.ext (Ext.refl _), rfl⟩
  · intro σ β w1 hE1 hbi hk
    have hz1 := hE1.size
    refine ⟨[], (agree_nil _), ?_⟩
    have h1247 := ((hB40.row hR35 (by omega)).ext hE1)
    refine WL.load_box rfl rfl rfl h1247 Ty.agg29 ?_
    refine WL.nil (fun a_ ha => ?_)
    exact ⟨_, β, ha, (Ext.refl _), BExt.refl _ _, hbi.ext (Ext.refl _), rfl⟩
  · intro σ β w1 hE1 hbi hk
    have hz1 := hE1.size
    obtain ⟨_, hv1347, rfl⟩ := hk 0 (by kernel_rfl) _ _ rfl rfl
    obtain ⟨_, hv1348, rfl⟩ := hk 1 (by kernel_rfl) _ _ rfl rfl
    refine ⟨[(24, .agg #[.int .u8 A.kind, .int .u64 A.set.a, .int .u64 A.set.b, .int .u64 A.set.c, .int .u64 A.set.d, .int .i64 A.least, .int .i64 A.most, .slice a4 A.subs.length cap4]), (25, .agg #[.int .u8 B.kind, .int .u64 B.set.a, .int .u64 B.set.b, .int .u64 B.set.c, .int .u64 B.set.d, .int .i64 B.least, .int .i64 B.most, .slice a7 B.subs.length cap7])], (agree_cons (look_right rfl hv1347) (agree_cons (look_right rfl hv1348) (agree_nil _))), ?_⟩
    refine WL.call rfl rfl rfl Ty.ent30 (Compare_ok _ _ _ _ _ A B (h43.ext hE1) (h44.ext hE1) hkA hkB) ?_
    rintro _ w1350 ⟨rfl, hE1349⟩
    have hzhE1349 := hE1349.size
    refine ⟨_, rfl, ?_⟩
    refine WL.nil (fun a_ ha => ?_)
    exact ⟨_, β, ha, hE1349, BExt.refl _ _, hbi.ext hE1349, rfl⟩
  · intro σ β w1 hE1 hbi hk
    have hz1 := hE1.size
    refine ⟨[], (agree_nil _), ?_⟩
    have h1447 := ((hB40.row hR35 (by omega)).ext hE1)
    refine WL.load_box rfl rfl rfl h1447 Ty.agg29 ?_
    refine WL.nil (fun a_ ha => ?_)
    exact ⟨_, β, ha, (Ext.refl _), BExt.refl _ _, hbi.ext (Ext.refl _), rfl⟩
  · intro σ β w1 hE1 hbi hk
    have hz1 := hE1.size
    refine ⟨[], (agree_nil _), ?_⟩
    refine WL.load_box rfl rfl rfl (h46.ext hE1) Ty.agg29 ?_
    refine WL.nil (fun a_ ha => ?_)
    exact ⟨_, β, ha, (Ext.refl _), BExt.refl _ _, hbi.ext (Ext.refl _), rfl⟩
  · intro σ β w1 hE1 hbi hk
    have hz1 := hE1.size
    obtain ⟨_, hv1647, rfl⟩ := hk 3 (by kernel_rfl) _ _ rfl rfl
    obtain ⟨_, hv1648, rfl⟩ := hk 4 (by kernel_rfl) _ _ rfl rfl
    refine ⟨[(27, .agg #[.int .u8 B.kind, .int .u64 B.set.a, .int .u64 B.set.b, .int .u64 B.set.c, .int .u64 B.set.d, .int .i64 B.least, .int .i64 B.most, .slice a7 B.subs.length cap7]), (28, .agg #[.int .u8 A.kind, .int .u64 A.set.a, .int .u64 A.set.b, .int .u64 A.set.c, .int .u64 A.set.d, .int .i64 A.least, .int .i64 A.most, .slice a4 A.subs.length cap4])], (agree_cons (look_right rfl hv1647) (agree_cons (look_right rfl hv1648) (agree_nil _))), ?_⟩
    refine WL.call rfl rfl rfl Ty.ent30 (Compare_ok _ _ _ _ _ B A (h44.ext hE1) (h43.ext hE1) hkB hkA) ?_
    rintro _ w1650 ⟨rfl, hE1649⟩
    have hzhE1649 := hE1649.size
    refine ⟨_, rfl, ?_⟩
    refine WL.nil (fun a_ ha => ?_)
    exact ⟨_, β, ha, hE1649, BExt.refl _ _, hbi.ext hE1649, rfl⟩
  · intro σ β w1 hE1 hbi hk
    have hz1 := hE1.size
    refine ⟨[], (agree_nil _), ?_⟩
    have h1747 := ((hB40.row hR35 (by omega)).ext hE1)
    refine WL.load_box rfl rfl rfl h1747 Ty.agg29 ?_
    refine WL.nil (fun a_ ha => ?_)
    exact ⟨_, β, ha, (Ext.refl _), BExt.refl _ _, hbi.ext (Ext.refl _), rfl⟩
  · intro σ β w1 hE1 hbi hk
    have hz1 := hE1.size
    refine ⟨[], (agree_nil _), ?_⟩
    refine WL.load_box rfl rfl rfl (hR39.ext hE1) Ty.agg29 ?_
    refine WL.nil (fun a_ ha => ?_)
    exact ⟨_, β, ha, (Ext.refl _), BExt.refl _ _, hbi.ext (Ext.refl _), rfl⟩
  · intro σ β w1 hE1 hbi hk
    have hz1 := hE1.size
    obtain ⟨_, hv1947, rfl⟩ := hk 6 (by kernel_rfl) _ _ rfl rfl
    obtain ⟨_, hv1948, rfl⟩ := hk 7 (by kernel_rfl) _ _ rfl rfl
    refine ⟨[(30, .agg #[.int .u8 B.kind, .int .u64 B.set.a, .int .u64 B.set.b, .int .u64 B.set.c, .int .u64 B.set.d, .int .i64 B.least, .int .i64 B.most, .slice a7 B.subs.length cap7]), (31, .agg #[.int .u8 C.kind, .int .u64 C.set.a, .int .u64 C.set.b, .int .u64 C.set.c, .int .u64 C.set.d, .int .i64 C.least, .int .i64 C.most, .slice a10 C.subs.length cap10])], (agree_cons (look_right rfl hv1947) (agree_cons (look_right rfl hv1948) (agree_nil _))), ?_⟩
    refine WL.call rfl rfl rfl Ty.ent30 (Compare_ok _ _ _ _ _ B C (h44.ext hE1) (h45.ext hE1) hkB hkC) ?_
    rintro _ w1950 ⟨rfl, hE1949⟩
    have hzhE1949 := hE1949.size
    refine ⟨_, rfl, ?_⟩
    refine WL.nil (fun a_ ha => ?_)
    exact ⟨_, β, ha, hE1949, BExt.refl _ _, hbi.ext hE1949, rfl⟩
  · intro σ β w1 hE1 hbi hk
    have hz1 := hE1.size
    refine ⟨[], (agree_nil _), ?_⟩
    refine WL.load_box rfl rfl rfl (h46.ext hE1) Ty.agg29 ?_
    refine WL.nil (fun a_ ha => ?_)
    exact ⟨_, β, ha, (Ext.refl _), BExt.refl _ _, hbi.ext (Ext.refl _), rfl⟩
  · intro σ β w1 hE1 hbi hk
    have hz1 := hE1.size
    refine ⟨[], (agree_nil _), ?_⟩
    refine WL.load_box rfl rfl rfl (hR39.ext hE1) Ty.agg29 ?_
    refine WL.nil (fun a_ ha => ?_)
    exact ⟨_, β, ha, (Ext.refl _), BExt.refl _ _, hbi.ext (Ext.refl _), rfl⟩
  intro σ β w946 hE946 hbi946 hk
  have hz946 := hE946.size
  have hbi := hbi946
  obtain ⟨_, hv947, rfl⟩ := hk 2 (by decide) _ _ rfl rfl
  obtain ⟨_, hv948, rfl⟩ := hk 5 (by decide) _ _ rfl rfl
  obtain ⟨_, hv949, rfl⟩ := hk 8 (by decide) _ _ rfl rfl
  obtain ⟨_, hv950, rfl⟩ := hk 9 (by decide) _ _ rfl rfl
  obtain ⟨_, hv951, rfl⟩ := hk 10 (by decide) _ _ rfl rfl
  refine WL.know [(26, .int .i64 (Nd.compare A B)), (29, .int .i64 (Nd.compare B A)), (32, .int .i64 (Nd.compare B C)), (33, .agg #[.int .u8 A.kind, .int .u64 A.set.a, .int .u64 A.set.b, .int .u64 A.set.c, .int .u64 A.set.d, .int .i64 A.least, .int .i64 A.most, .slice a4 A.subs.length cap4]), (34, .agg #[.int .u8 C.kind, .int .u64 C.set.a, .int .u64 C.set.b, .int .u64 C.set.c, .int .u64 C.set.d, .int .i64 C.least, .int .i64 C.most, .slice a10 C.subs.length cap10])] (agree_cons (look_right rfl hv947) (agree_cons (look_right rfl hv948) (agree_cons (look_right rfl hv949) (agree_cons (look_right rfl hv950) (agree_cons (look_right rfl hv951) (agree_nil _)))))) ?_
  refine WL.call rfl rfl rfl Ty.ent30 (Compare_ok _ _ _ _ _ A C (h43.ext hE946) (h45.ext hE946) hkA hkC) ?_
  rintro _ w953 ⟨rfl, hE952⟩
  have hzhE952 := hE952.size
  refine ⟨_, rfl, ?_⟩
  refine WL.assign rfl rfl rfl ?_
  refine WL.assign rfl rfl rfl ?_
  refine WL.assign rfl rfl rfl ?_
  refine WL.assign rfl rfl rfl ?_
  refine WL.done' ?_ (fun _ _ h => h)
  refine WC.seqk ?_
  refine WC.cutE [(6, .bool false), (17, .bool false), (7, .pointer (some ⟨b13, 0, none⟩)), (8, .pointer (some ⟨b19, 0, none⟩)), (10, .int .i64 (Nd.compare A B)), (83, .bool false)] ?_ ?_
  · skip
    cases hab : decide ((Nd.compare A B : Int) ≤ 0) with
    | false =>
      have h20954 := ((h43.ext hE946).ext hE952)
      have h20955 := ((h45.ext hE946).ext hE952)
      have h20956 := ((h46.ext hE946).ext hE952)
      have h20957 := (((hB40.row hR35 (by omega)).ext hE946).ext hE952)
      have h20958 := ((h44.ext hE946).ext hE952)
      have h20959 := ((hR39.ext hE946).ext hE952)
      refine WC.weaken (r' := [(0, .slice axs xs.length capxs), (6, .bool false), (17, .bool false), (7, .pointer (some ⟨b13, 0, none⟩)), (8, .pointer (some ⟨b19, 0, none⟩)), (10, .int .i64 (Nd.compare A B)), (11, .int .i64 (Nd.compare B A)), (12, .int .i64 (Nd.compare B C)), (13, .int .i64 (Nd.compare A C))]) (subReg_cons rfl (subReg_cons rfl (subReg_cons rfl (subReg_cons rfl (subReg_cons rfl (subReg_cons rfl (subReg_cons rfl (subReg_cons rfl (subReg_cons rfl (subReg_nil _)))))))))) ?_
      refine WC.draw 48 [36, 37, 38, 39, 40, 41, 42, 43, 44, 45, 46, 47, 48, 49, 50, 51, 52, 53, 54, 55, 56, 57, 58, 59, 60, 61, 62, 63, 64, 65, 66, 67, 68, 69, 70, 71, 72, 73, 74, 75, 76, 77, 78, 79, 80, 81, 82, 83] [pc (.int .i64 (Nd.compare A B)), pc (.int .i64 (Nd.compare B A)), pc (.int .i64 (-(Nd.compare B A))), pc (.bool false), pc (.bool false), pc (.int .i64 (Nd.compare A B)), pc (.bool false), pc (.bool false), pc (.bool false), pc (.int .i64 (Nd.compare A B)), pc (.bool false), pc (.bool false), pc (.bool false), pc (.int .i64 (Nd.compare A B)), pc (.bool ((Nd.compare A B : Int) == 0)), pc (.agg #[.int .u8 A.kind, .int .u64 A.set.a, .int .u64 A.set.b, .int .u64 A.set.c, .int .u64 A.set.d, .int .i64 A.least, .int .i64 A.most, .slice a4 A.subs.length cap4]), pc (.agg #[.int .u8 B.kind, .int .u64 B.set.a, .int .u64 B.set.b, .int .u64 B.set.c, .int .u64 B.set.d, .int .i64 B.least, .int .i64 B.most, .slice a7 B.subs.length cap7]), pc (.bool (Nd.light A && Nd.light B && Nd.same A B)), pc (.bool false), pc (.bool false), pc (.bool false), pc (.int .i64 (Nd.compare A B)), pc (.bool false), pc (.bool false), pc (undef), pc (undef), pc (.bool false), pc (.bool false), pc (undef), pc (undef), pc (.bool false), pc (.bool false), pc (.bool false), pc (.agg #[.int .u8 A.kind, .int .u64 A.set.a, .int .u64 A.set.b, .int .u64 A.set.c, .int .u64 A.set.d, .int .i64 A.least, .int .i64 A.most, .slice a4 A.subs.length cap4]), pc (.agg #[.int .u8 B.kind, .int .u64 B.set.a, .int .u64 B.set.b, .int .u64 B.set.c, .int .u64 B.set.d, .int .i64 B.least, .int .i64 B.most, .slice a7 B.subs.length cap7]), pc (.bool (Nd.light A && Nd.light B && Nd.same A B)), pc (.agg #[.int .u8 B.kind, .int .u64 B.set.a, .int .u64 B.set.b, .int .u64 B.set.c, .int .u64 B.set.d, .int .i64 B.least, .int .i64 B.most, .slice a7 B.subs.length cap7]), pc (.agg #[.int .u8 A.kind, .int .u64 A.set.a, .int .u64 A.set.b, .int .u64 A.set.c, .int .u64 A.set.d, .int .i64 A.least, .int .i64 A.most, .slice a4 A.subs.length cap4]), pc (.bool (Nd.light B && Nd.light A && Nd.same B A)), pc (.bool false), pc (.bool false), pc (.bool false), pc (.agg #[.int .u8 A.kind, .int .u64 A.set.a, .int .u64 A.set.b, .int .u64 A.set.c, .int .u64 A.set.d, .int .i64 A.least, .int .i64 A.most, .slice a4 A.subs.length cap4]), pc (.slice axs xs.length capxs), pnode (fun k => w953.heap.size ≤ k) A, pc (.bool true), pc (.bool false), pc (.bool false)] (by kernel_rfl) (by kernel_rfl) ⟨KW_pc _, KW_pc _, KW_pc _, KW_pc _, KW_pc _, KW_pc _, KW_pc _, KW_pc _, KW_pc _, KW_pc _, KW_pc _, KW_pc _, KW_pc _, KW_pc _, KW_pc _, KW_pc _, KW_pc _, KW_pc _, KW_pc _, KW_pc _, KW_pc _, KW_pc _, KW_pc _, KW_pc _, KW_pc _, KW_pc _, KW_pc _, KW_pc _, KW_pc _, KW_pc _, KW_pc _, KW_pc _, KW_pc _, KW_pc _, KW_pc _, KW_pc _, KW_pc _, KW_pc _, KW_pc _, KW_pc _, KW_pc _, KW_pc _, KW_pc _, KW_pc _, KW_pnode _ _, KW_pc _, KW_pc _, KW_pc _, trivial⟩ rfl rfl rfl (StepsOn.cons ?_ (StepsOn.cons ?_ (StepsOn.cons ?_ (StepsOn.cons ?_ (StepsOn.cons ?_ (StepsOn.cons ?_ (StepsOn.cons ?_ (StepsOn.cons ?_ (StepsOn.cons ?_ (StepsOn.cons ?_ (StepsOn.cons ?_ (StepsOn.cons ?_ (StepsOn.cons ?_ (StepsOn.cons ?_ (StepsOn.cons ?_ (StepsOn.cons ?_ (StepsOn.cons ?_ (StepsOn.cons ?_ (StepsOn.cons ?_ (StepsOn.cons ?_ (StepsOn.cons ?_ (StepsOn.cons ?_ (StepsOn.cons ?_ (StepsOn.cons ?_ (StepsOn.cons ?_ (StepsOn.cons ?_ (StepsOn.cons ?_ (StepsOn.cons ?_ (StepsOn.cons ?_ (StepsOn.cons ?_ (StepsOn.cons ?_ (StepsOn.cons ?_ (StepsOn.cons ?_ (StepsOn.cons ?_ (StepsOn.cons ?_ (StepsOn.cons ?_ (StepsOn.cons ?_ (StepsOn.cons ?_ (StepsOn.cons ?_ (StepsOn.cons ?_ (StepsOn.cons ?_ (StepsOn.cons ?_ (StepsOn.cons ?_ (StepsOn.cons ?_ (StepsOn.cons ?_ (StepsOn.cons ?_ (StepsOn.cons ?_ (StepsOn.cons ?_ (StepsOn.nil _))))))))))))))))))))))))))))))))))))))))))))))))) ?_
      · intro σ β w1 hE1 hbi hk
        have hz1 := hE1.size
        refine ⟨[], (agree_nil _), ?_⟩
        refine WL.move rfl rfl rfl ?_
        refine WL.nil (fun a_ ha => ?_)
        exact ⟨_, β, ha, (Ext.refl _), BExt.refl _ _, hbi.ext (Ext.refl _), rfl⟩
      · intro σ β w1 hE1 hbi hk
        have hz1 := hE1.size
        refine ⟨[], (agree_nil _), ?_⟩
        refine WL.move rfl rfl rfl ?_
        refine WL.nil (fun a_ ha => ?_)
        exact ⟨_, β, ha, (Ext.refl _), BExt.refl _ _, hbi.ext (Ext.refl _), rfl⟩
      · intro σ β w1 hE1 hbi hk
        have hz1 := hE1.size
        obtain ⟨_, hv22260, rfl⟩ := hk 1 (by kernel_rfl) _ _ rfl rfl
        refine ⟨[(37, .int .i64 (Nd.compare B A))], (agree_cons (look_right rfl hv22260) (agree_nil _)), ?_⟩
        refine WL.neg (v := -(Nd.compare B A)) rfl rfl rfl (IntWalk.i64_in _ (by omega)) ?_
        refine WL.nil (fun a_ ha => ?_)
        exact ⟨_, β, ha, (Ext.refl _), BExt.refl _ _, hbi.ext (Ext.refl _), rfl⟩
      · intro σ β w1 hE1 hbi hk
        have hz1 := hE1.size
        obtain ⟨_, hv22360, rfl⟩ := hk 0 (by kernel_rfl) _ _ rfl rfl
        obtain ⟨_, hv22361, rfl⟩ := hk 2 (by kernel_rfl) _ _ rfl rfl
        refine ⟨[(36, .int .i64 (Nd.compare A B)), (38, .int .i64 (-(Nd.compare B A)))], (agree_cons (look_right rfl hv22360) (agree_cons (look_right rfl hv22361) (agree_nil _))), ?_⟩
        refine WL.neq (b := false) rfl rfl rfl rfl (bne_eq_false_iff_eq.2 (Nd.o_anti hfA hfB hkA hkB)) ?_
        refine WL.nil (fun a_ ha => ?_)
        exact ⟨_, β, ha, (Ext.refl _), BExt.refl _ _, hbi.ext (Ext.refl _), rfl⟩
      · intro σ β w1 hE1 hbi hk
        have hz1 := hE1.size
        obtain ⟨_, hv22460, rfl⟩ := hk 3 (by kernel_rfl) _ _ rfl rfl
        refine ⟨[(39, .bool false)], (agree_cons (look_right rfl hv22460) (agree_nil _)), ?_⟩
        refine WL.move rfl rfl rfl ?_
        refine WL.nil (fun a_ ha => ?_)
        exact ⟨_, β, ha, (Ext.refl _), BExt.refl _ _, hbi.ext (Ext.refl _), rfl⟩
      · intro σ β w1 hE1 hbi hk
        have hz1 := hE1.size
        obtain ⟨_, hv22560, rfl⟩ := hk 4 (by kernel_rfl) _ _ rfl rfl
        refine ⟨[(40, .bool false)], (agree_cons (look_right rfl hv22560) (agree_nil _)), ?_⟩
        refine WL.move rfl rfl rfl ?_
        refine WL.nil (fun a_ ha => ?_)
        exact ⟨_, β, ha, (Ext.refl _), BExt.refl _ _, hbi.ext (Ext.refl _), rfl⟩
      · intro σ β w1 hE1 hbi hk
        have hz1 := hE1.size
        obtain ⟨_, hv22660, rfl⟩ := hk 4 (by kernel_rfl) _ _ rfl rfl
        obtain ⟨_, hv22661, rfl⟩ := hk 5 (by kernel_rfl) _ _ rfl rfl
        refine ⟨[(40, .bool false), (41, .int .i64 (Nd.compare A B))], (agree_cons (look_right rfl hv22660) (agree_cons (look_right rfl hv22661) (agree_nil _))), ?_⟩
        refine WL.lss (b := false) rfl rfl rfl rfl (decide_eq_false (by have := Nd.o_bd hfA hfB hkA hkB; omega)) ?_
        refine WL.nil (fun a_ ha => ?_)
        exact ⟨_, β, ha, (Ext.refl _), BExt.refl _ _, hbi.ext (Ext.refl _), rfl⟩
      · intro σ β w1 hE1 hbi hk
        have hz1 := hE1.size
        obtain ⟨_, hv22760, rfl⟩ := hk 4 (by kernel_rfl) _ _ rfl rfl
        obtain ⟨_, hv22761, rfl⟩ := hk 6 (by kernel_rfl) _ _ rfl rfl
        refine ⟨[(40, .bool false), (42, .bool false)], (agree_cons (look_right rfl hv22760) (agree_cons (look_right rfl hv22761) (agree_nil _))), ?_⟩
        refine WL.pick_f rfl rfl rfl rfl ?_
        refine WL.nil (fun a_ ha => ?_)
        exact ⟨_, β, ha, (Ext.refl _), BExt.refl _ _, hbi.ext (Ext.refl _), rfl⟩
      · intro σ β w1 hE1 hbi hk
        have hz1 := hE1.size
        obtain ⟨_, hv22860, rfl⟩ := hk 7 (by kernel_rfl) _ _ rfl rfl
        refine ⟨[(43, .bool false)], (agree_cons (look_right rfl hv22860) (agree_nil _)), ?_⟩
        refine WL.move rfl rfl rfl ?_
        refine WL.nil (fun a_ ha => ?_)
        exact ⟨_, β, ha, (Ext.refl _), BExt.refl _ _, hbi.ext (Ext.refl _), rfl⟩
      · intro σ β w1 hE1 hbi hk
        have hz1 := hE1.size
        obtain ⟨_, hv22960, rfl⟩ := hk 8 (by kernel_rfl) _ _ rfl rfl
        refine ⟨[(44, .bool false)], (agree_cons (look_right rfl hv22960) (agree_nil _)), ?_⟩
        refine WL.move rfl rfl rfl ?_
        refine WL.nil (fun a_ ha => ?_)
        exact ⟨_, β, ha, (Ext.refl _), BExt.refl _ _, hbi.ext (Ext.refl _), rfl⟩
      · intro σ β w1 hE1 hbi hk
        have hz1 := hE1.size
        obtain ⟨_, hv23060, rfl⟩ := hk 8 (by kernel_rfl) _ _ rfl rfl
        obtain ⟨_, hv23061, rfl⟩ := hk 9 (by kernel_rfl) _ _ rfl rfl
        refine ⟨[(44, .bool false), (45, .int .i64 (Nd.compare A B))], (agree_cons (look_right rfl hv23060) (agree_cons (look_right rfl hv23061) (agree_nil _))), ?_⟩
        refine WL.gtr (b := false) rfl rfl rfl rfl (decide_eq_false (by have := Nd.o_bd hfA hfB hkA hkB; omega)) ?_
        refine WL.nil (fun a_ ha => ?_)
        exact ⟨_, β, ha, (Ext.refl _), BExt.refl _ _, hbi.ext (Ext.refl _), rfl⟩
      · intro σ β w1 hE1 hbi hk
        have hz1 := hE1.size
        obtain ⟨_, hv23160, rfl⟩ := hk 8 (by kernel_rfl) _ _ rfl rfl
        obtain ⟨_, hv23161, rfl⟩ := hk 10 (by kernel_rfl) _ _ rfl rfl
        refine ⟨[(44, .bool false), (46, .bool false)], (agree_cons (look_right rfl hv23160) (agree_cons (look_right rfl hv23161) (agree_nil _))), ?_⟩
        refine WL.pick_f rfl rfl rfl rfl ?_
        refine WL.nil (fun a_ ha => ?_)
        exact ⟨_, β, ha, (Ext.refl _), BExt.refl _ _, hbi.ext (Ext.refl _), rfl⟩
      · intro σ β w1 hE1 hbi hk
        have hz1 := hE1.size
        obtain ⟨_, hv23260, rfl⟩ := hk 11 (by kernel_rfl) _ _ rfl rfl
        refine ⟨[(47, .bool false)], (agree_cons (look_right rfl hv23260) (agree_nil _)), ?_⟩
        refine WL.move rfl rfl rfl ?_
        refine WL.nil (fun a_ ha => ?_)
        exact ⟨_, β, ha, (Ext.refl _), BExt.refl _ _, hbi.ext (Ext.refl _), rfl⟩
      · intro σ β w1 hE1 hbi hk
        have hz1 := hE1.size
        obtain ⟨_, hv23360, rfl⟩ := hk 12 (by kernel_rfl) _ _ rfl rfl
        refine ⟨[(48, .bool false)], (agree_cons (look_right rfl hv23360) (agree_nil _)), ?_⟩
        refine WL.move rfl rfl rfl ?_
        refine WL.nil (fun a_ ha => ?_)
        exact ⟨_, β, ha, (Ext.refl _), BExt.refl _ _, hbi.ext (Ext.refl _), rfl⟩
      · intro σ β w1 hE1 hbi hk
        have hz1 := hE1.size
        obtain ⟨_, hv23460, rfl⟩ := hk 12 (by kernel_rfl) _ _ rfl rfl
        obtain ⟨_, hv23461, rfl⟩ := hk 13 (by kernel_rfl) _ _ rfl rfl
        refine ⟨[(48, .bool false), (49, .int .i64 (Nd.compare A B))], (agree_cons (look_right rfl hv23460) (agree_cons (look_right rfl hv23461) (agree_nil _))), ?_⟩
        refine WL.eql rfl rfl rfl rfl rfl ?_
        refine WL.nil (fun a_ ha => ?_)
        exact ⟨_, β, ha, (Ext.refl _), BExt.refl _ _, hbi.ext (Ext.refl _), rfl⟩
      · intro σ β w1 hE1 hbi hk
        have hz1 := hE1.size
        obtain ⟨_, hv23560, rfl⟩ := hk 12 (by kernel_rfl) _ _ rfl rfl
        refine ⟨[(48, .bool false)], (agree_cons (look_right rfl hv23560) (agree_nil _)), ?_⟩
        refine WL.load_box rfl rfl rfl (h20956.ext hE1) Ty.agg29 ?_
        refine WL.nil (fun a_ ha => ?_)
        exact ⟨_, β, ha, (Ext.refl _), BExt.refl _ _, hbi.ext (Ext.refl _), rfl⟩
      · intro σ β w1 hE1 hbi hk
        have hz1 := hE1.size
        obtain ⟨_, hv23660, rfl⟩ := hk 12 (by kernel_rfl) _ _ rfl rfl
        refine ⟨[(48, .bool false)], (agree_cons (look_right rfl hv23660) (agree_nil _)), ?_⟩
        refine WL.load_box rfl rfl rfl (h20957.ext hE1) Ty.agg29 ?_
        refine WL.nil (fun a_ ha => ?_)
        exact ⟨_, β, ha, (Ext.refl _), BExt.refl _ _, hbi.ext (Ext.refl _), rfl⟩
      · intro σ β w1 hE1 hbi hk
        have hz1 := hE1.size
        obtain ⟨_, hv23760, rfl⟩ := hk 12 (by kernel_rfl) _ _ rfl rfl
        obtain ⟨_, hv23761, rfl⟩ := hk 15 (by kernel_rfl) _ _ rfl rfl
        obtain ⟨_, hv23762, rfl⟩ := hk 16 (by kernel_rfl) _ _ rfl rfl
        refine ⟨[(48, .bool false), (51, .agg #[.int .u8 A.kind, .int .u64 A.set.a, .int .u64 A.set.b, .int .u64 A.set.c, .int .u64 A.set.d, .int .i64 A.least, .int .i64 A.most, .slice a4 A.subs.length cap4]), (52, .agg #[.int .u8 B.kind, .int .u64 B.set.a, .int .u64 B.set.b, .int .u64 B.set.c, .int .u64 B.set.d, .int .i64 B.least, .int .i64 B.most, .slice a7 B.subs.length cap7])], (agree_cons (look_right rfl hv23760) (agree_cons (look_right rfl hv23761) (agree_cons (look_right rfl hv23762) (agree_nil _)))), ?_⟩
        refine WL.call rfl rfl rfl Ty.ent14 (Same_ok _ _ _ _ _ A B (h20954.ext hE1) (h20958.ext hE1)) ?_
        rintro _ w23764 ⟨rfl, hE23763⟩
        have hzhE23763 := hE23763.size
        refine ⟨_, rfl, ?_⟩
        refine WL.nil (fun a_ ha => ?_)
        exact ⟨_, β, ha, hE23763, BExt.refl _ _, hbi.ext hE23763, rfl⟩
      · intro σ β w1 hE1 hbi hk
        have hz1 := hE1.size
        obtain ⟨_, hv23860, rfl⟩ := hk 12 (by kernel_rfl) _ _ rfl rfl
        obtain ⟨_, hv23861, rfl⟩ := hk 14 (by kernel_rfl) _ _ rfl rfl
        obtain ⟨_, hv23862, rfl⟩ := hk 17 (by kernel_rfl) _ _ rfl rfl
        refine ⟨[(48, .bool false), (50, .bool ((Nd.compare A B : Int) == 0)), (53, .bool (Nd.light A && Nd.light B && Nd.same A B))], (agree_cons (look_right rfl hv23860) (agree_cons (look_right rfl hv23861) (agree_cons (look_right rfl hv23862) (agree_nil _)))), ?_⟩
        refine WL.neqB (b := false) rfl rfl Try.underlying4 rfl rfl (bne_eq_false_iff_eq.2 (Nd.o_eq hfA hfB hkA hkB)) ?_
        refine WL.nil (fun a_ ha => ?_)
        exact ⟨_, β, ha, (Ext.refl _), BExt.refl _ _, hbi.ext (Ext.refl _), rfl⟩
      · intro σ β w1 hE1 hbi hk
        have hz1 := hE1.size
        obtain ⟨_, hv23960, rfl⟩ := hk 12 (by kernel_rfl) _ _ rfl rfl
        obtain ⟨_, hv23961, rfl⟩ := hk 18 (by kernel_rfl) _ _ rfl rfl
        refine ⟨[(48, .bool false), (54, .bool false)], (agree_cons (look_right rfl hv23960) (agree_cons (look_right rfl hv23961) (agree_nil _))), ?_⟩
        refine WL.pick_f rfl rfl rfl rfl ?_
        refine WL.nil (fun a_ ha => ?_)
        exact ⟨_, β, ha, (Ext.refl _), BExt.refl _ _, hbi.ext (Ext.refl _), rfl⟩
      · intro σ β w1 hE1 hbi hk
        have hz1 := hE1.size
        obtain ⟨_, hv24060, rfl⟩ := hk 19 (by kernel_rfl) _ _ rfl rfl
        refine ⟨[(55, .bool false)], (agree_cons (look_right rfl hv24060) (agree_nil _)), ?_⟩
        refine WL.move rfl rfl rfl ?_
        refine WL.nil (fun a_ ha => ?_)
        exact ⟨_, β, ha, (Ext.refl _), BExt.refl _ _, hbi.ext (Ext.refl _), rfl⟩
      · intro σ β w1 hE1 hbi hk
        have hz1 := hE1.size
        obtain ⟨_, hv24160, rfl⟩ := hk 20 (by kernel_rfl) _ _ rfl rfl
        refine ⟨[(56, .bool false)], (agree_cons (look_right rfl hv24160) (agree_nil _)), ?_⟩
        refine WL.move rfl rfl rfl ?_
        refine WL.nil (fun a_ ha => ?_)
        exact ⟨_, β, ha, (Ext.refl _), BExt.refl _ _, hbi.ext (Ext.refl _), rfl⟩
      · intro σ β w1 hE1 hbi hk
        have hz1 := hE1.size
        obtain ⟨_, hv24260, rfl⟩ := hk 20 (by kernel_rfl) _ _ rfl rfl
        obtain ⟨_, hv24261, rfl⟩ := hk 21 (by kernel_rfl) _ _ rfl rfl
        refine ⟨[(56, .bool false), (57, .int .i64 (Nd.compare A B))], (agree_cons (look_right rfl hv24260) (agree_cons (look_right rfl hv24261) (agree_nil _))), ?_⟩
        refine WL.leq (b := false) rfl rfl rfl rfl hab ?_
        refine WL.nil (fun a_ ha => ?_)
        exact ⟨_, β, ha, (Ext.refl _), BExt.refl _ _, hbi.ext (Ext.refl _), rfl⟩
      · intro σ β w1 hE1 hbi hk
        have hz1 := hE1.size
        obtain ⟨_, hv24360, rfl⟩ := hk 20 (by kernel_rfl) _ _ rfl rfl
        obtain ⟨_, hv24361, rfl⟩ := hk 22 (by kernel_rfl) _ _ rfl rfl
        refine ⟨[(56, .bool false), (58, .bool false)], (agree_cons (look_right rfl hv24360) (agree_cons (look_right rfl hv24361) (agree_nil _))), ?_⟩
        refine WL.move rfl rfl rfl ?_
        refine WL.nil (fun a_ ha => ?_)
        exact ⟨_, β, ha, (Ext.refl _), BExt.refl _ _, hbi.ext (Ext.refl _), rfl⟩
      · intro σ β w1 hE1 hbi hk
        have hz1 := hE1.size
        obtain ⟨_, hv24460, rfl⟩ := hk 23 (by kernel_rfl) _ _ rfl rfl
        refine ⟨[(59, .bool false)], (agree_cons (look_right rfl hv24460) (agree_nil _)), ?_⟩
        refine WL.pass rfl rfl ?_
        refine WL.nil (fun a_ ha => ?_)
        exact ⟨_, β, ha, (Ext.refl _), BExt.refl _ _, hbi.ext (Ext.refl _), rfl⟩
      · intro σ β w1 hE1 hbi hk
        have hz1 := hE1.size
        obtain ⟨_, hv24560, rfl⟩ := hk 23 (by kernel_rfl) _ _ rfl rfl
        obtain ⟨_, hv24561, rfl⟩ := hk 24 (by kernel_rfl) _ _ rfl rfl
        refine ⟨[(59, .bool false), (60, undef)], (agree_cons (look_right rfl hv24560) (agree_cons (look_right rfl hv24561) (agree_nil _))), ?_⟩
        refine WL.pass rfl rfl ?_
        refine WL.nil (fun a_ ha => ?_)
        exact ⟨_, β, ha, (Ext.refl _), BExt.refl _ _, hbi.ext (Ext.refl _), rfl⟩
      · intro σ β w1 hE1 hbi hk
        have hz1 := hE1.size
        obtain ⟨_, hv24660, rfl⟩ := hk 20 (by kernel_rfl) _ _ rfl rfl
        obtain ⟨_, hv24661, rfl⟩ := hk 23 (by kernel_rfl) _ _ rfl rfl
        obtain ⟨_, hv24662, rfl⟩ := hk 25 (by kernel_rfl) _ _ rfl rfl
        refine ⟨[(56, .bool false), (59, .bool false), (61, undef)], (agree_cons (look_right rfl hv24660) (agree_cons (look_right rfl hv24661) (agree_cons (look_right rfl hv24662) (agree_nil _)))), ?_⟩
        refine WL.pick_f rfl rfl rfl rfl ?_
        refine WL.nil (fun a_ ha => ?_)
        exact ⟨_, β, ha, (Ext.refl _), BExt.refl _ _, hbi.ext (Ext.refl _), rfl⟩
      · intro σ β w1 hE1 hbi hk
        have hz1 := hE1.size
        obtain ⟨_, hv24760, rfl⟩ := hk 20 (by kernel_rfl) _ _ rfl rfl
        obtain ⟨_, hv24761, rfl⟩ := hk 26 (by kernel_rfl) _ _ rfl rfl
        refine ⟨[(56, .bool false), (62, .bool false)], (agree_cons (look_right rfl hv24760) (agree_cons (look_right rfl hv24761) (agree_nil _))), ?_⟩
        refine WL.move rfl rfl rfl ?_
        refine WL.nil (fun a_ ha => ?_)
        exact ⟨_, β, ha, (Ext.refl _), BExt.refl _ _, hbi.ext (Ext.refl _), rfl⟩
      · intro σ β w1 hE1 hbi hk
        have hz1 := hE1.size
        obtain ⟨_, hv24860, rfl⟩ := hk 27 (by kernel_rfl) _ _ rfl rfl
        refine ⟨[(63, .bool false)], (agree_cons (look_right rfl hv24860) (agree_nil _)), ?_⟩
        refine WL.pass rfl rfl ?_
        refine WL.nil (fun a_ ha => ?_)
        exact ⟨_, β, ha, (Ext.refl _), BExt.refl _ _, hbi.ext (Ext.refl _), rfl⟩
      · intro σ β w1 hE1 hbi hk
        have hz1 := hE1.size
        obtain ⟨_, hv24960, rfl⟩ := hk 27 (by kernel_rfl) _ _ rfl rfl
        obtain ⟨_, hv24961, rfl⟩ := hk 28 (by kernel_rfl) _ _ rfl rfl
        refine ⟨[(63, .bool false), (64, undef)], (agree_cons (look_right rfl hv24960) (agree_cons (look_right rfl hv24961) (agree_nil _))), ?_⟩
        refine WL.pass rfl rfl ?_
        refine WL.nil (fun a_ ha => ?_)
        exact ⟨_, β, ha, (Ext.refl _), BExt.refl _ _, hbi.ext (Ext.refl _), rfl⟩
      · intro σ β w1 hE1 hbi hk
        have hz1 := hE1.size
        obtain ⟨_, hv25060, rfl⟩ := hk 20 (by kernel_rfl) _ _ rfl rfl
        obtain ⟨_, hv25061, rfl⟩ := hk 27 (by kernel_rfl) _ _ rfl rfl
        obtain ⟨_, hv25062, rfl⟩ := hk 29 (by kernel_rfl) _ _ rfl rfl
        refine ⟨[(56, .bool false), (63, .bool false), (65, undef)], (agree_cons (look_right rfl hv25060) (agree_cons (look_right rfl hv25061) (agree_cons (look_right rfl hv25062) (agree_nil _)))), ?_⟩
        refine WL.pick_f rfl rfl rfl rfl ?_
        refine WL.nil (fun a_ ha => ?_)
        exact ⟨_, β, ha, (Ext.refl _), BExt.refl _ _, hbi.ext (Ext.refl _), rfl⟩
      · intro σ β w1 hE1 hbi hk
        have hz1 := hE1.size
        obtain ⟨_, hv25160, rfl⟩ := hk 20 (by kernel_rfl) _ _ rfl rfl
        obtain ⟨_, hv25161, rfl⟩ := hk 30 (by kernel_rfl) _ _ rfl rfl
        refine ⟨[(56, .bool false), (66, .bool false)], (agree_cons (look_right rfl hv25160) (agree_cons (look_right rfl hv25161) (agree_nil _))), ?_⟩
        refine WL.pick_f rfl rfl rfl rfl ?_
        refine WL.nil (fun a_ ha => ?_)
        exact ⟨_, β, ha, (Ext.refl _), BExt.refl _ _, hbi.ext (Ext.refl _), rfl⟩
      · intro σ β w1 hE1 hbi hk
        have hz1 := hE1.size
        obtain ⟨_, hv25260, rfl⟩ := hk 31 (by kernel_rfl) _ _ rfl rfl
        refine ⟨[(67, .bool false)], (agree_cons (look_right rfl hv25260) (agree_nil _)), ?_⟩
        refine WL.move rfl rfl rfl ?_
        refine WL.nil (fun a_ ha => ?_)
        exact ⟨_, β, ha, (Ext.refl _), BExt.refl _ _, hbi.ext (Ext.refl _), rfl⟩
      · intro σ β w1 hE1 hbi hk
        have hz1 := hE1.size
        obtain ⟨_, hv25360, rfl⟩ := hk 32 (by kernel_rfl) _ _ rfl rfl
        refine ⟨[(68, .bool false)], (agree_cons (look_right rfl hv25360) (agree_nil _)), ?_⟩
        refine WL.load_box rfl rfl rfl (h20956.ext hE1) Ty.agg29 ?_
        refine WL.nil (fun a_ ha => ?_)
        exact ⟨_, β, ha, (Ext.refl _), BExt.refl _ _, hbi.ext (Ext.refl _), rfl⟩
      · intro σ β w1 hE1 hbi hk
        have hz1 := hE1.size
        obtain ⟨_, hv25460, rfl⟩ := hk 32 (by kernel_rfl) _ _ rfl rfl
        refine ⟨[(68, .bool false)], (agree_cons (look_right rfl hv25460) (agree_nil _)), ?_⟩
        refine WL.load_box rfl rfl rfl (h20957.ext hE1) Ty.agg29 ?_
        refine WL.nil (fun a_ ha => ?_)
        exact ⟨_, β, ha, (Ext.refl _), BExt.refl _ _, hbi.ext (Ext.refl _), rfl⟩
      · intro σ β w1 hE1 hbi hk
        have hz1 := hE1.size
        obtain ⟨_, hv25560, rfl⟩ := hk 32 (by kernel_rfl) _ _ rfl rfl
        obtain ⟨_, hv25561, rfl⟩ := hk 33 (by kernel_rfl) _ _ rfl rfl
        obtain ⟨_, hv25562, rfl⟩ := hk 34 (by kernel_rfl) _ _ rfl rfl
        refine ⟨[(68, .bool false), (69, .agg #[.int .u8 A.kind, .int .u64 A.set.a, .int .u64 A.set.b, .int .u64 A.set.c, .int .u64 A.set.d, .int .i64 A.least, .int .i64 A.most, .slice a4 A.subs.length cap4]), (70, .agg #[.int .u8 B.kind, .int .u64 B.set.a, .int .u64 B.set.b, .int .u64 B.set.c, .int .u64 B.set.d, .int .i64 B.least, .int .i64 B.most, .slice a7 B.subs.length cap7])], (agree_cons (look_right rfl hv25560) (agree_cons (look_right rfl hv25561) (agree_cons (look_right rfl hv25562) (agree_nil _)))), ?_⟩
        refine WL.call rfl rfl rfl Ty.ent14 (Same_ok _ _ _ _ _ A B (h20954.ext hE1) (h20958.ext hE1)) ?_
        rintro _ w25564 ⟨rfl, hE25563⟩
        have hzhE25563 := hE25563.size
        refine ⟨_, rfl, ?_⟩
        refine WL.nil (fun a_ ha => ?_)
        exact ⟨_, β, ha, hE25563, BExt.refl _ _, hbi.ext hE25563, rfl⟩
      · intro σ β w1 hE1 hbi hk
        have hz1 := hE1.size
        obtain ⟨_, hv25660, rfl⟩ := hk 32 (by kernel_rfl) _ _ rfl rfl
        refine ⟨[(68, .bool false)], (agree_cons (look_right rfl hv25660) (agree_nil _)), ?_⟩
        refine WL.load_box rfl rfl rfl (h20957.ext hE1) Ty.agg29 ?_
        refine WL.nil (fun a_ ha => ?_)
        exact ⟨_, β, ha, (Ext.refl _), BExt.refl _ _, hbi.ext (Ext.refl _), rfl⟩
      · intro σ β w1 hE1 hbi hk
        have hz1 := hE1.size
        obtain ⟨_, hv25760, rfl⟩ := hk 32 (by kernel_rfl) _ _ rfl rfl
        refine ⟨[(68, .bool false)], (agree_cons (look_right rfl hv25760) (agree_nil _)), ?_⟩
        refine WL.load_box rfl rfl rfl (h20956.ext hE1) Ty.agg29 ?_
        refine WL.nil (fun a_ ha => ?_)
        exact ⟨_, β, ha, (Ext.refl _), BExt.refl _ _, hbi.ext (Ext.refl _), rfl⟩
      · intro σ β w1 hE1 hbi hk
        have hz1 := hE1.size
        obtain ⟨_, hv25860, rfl⟩ := hk 32 (by kernel_rfl) _ _ rfl rfl
        obtain ⟨_, hv25861, rfl⟩ := hk 36 (by kernel_rfl) _ _ rfl rfl
        obtain ⟨_, hv25862, rfl⟩ := hk 37 (by kernel_rfl) _ _ rfl rfl
        refine ⟨[(68, .bool false), (72, .agg #[.int .u8 B.kind, .int .u64 B.set.a, .int .u64 B.set.b, .int .u64 B.set.c, .int .u64 B.set.d, .int .i64 B.least, .int .i64 B.most, .slice a7 B.subs.length cap7]), (73, .agg #[.int .u8 A.kind, .int .u64 A.set.a, .int .u64 A.set.b, .int .u64 A.set.c, .int .u64 A.set.d, .int .i64 A.least, .int .i64 A.most, .slice a4 A.subs.length cap4])], (agree_cons (look_right rfl hv25860) (agree_cons (look_right rfl hv25861) (agree_cons (look_right rfl hv25862) (agree_nil _)))), ?_⟩
        refine WL.call rfl rfl rfl Ty.ent14 (Same_ok _ _ _ _ _ B A (h20958.ext hE1) (h20954.ext hE1)) ?_
        rintro _ w25864 ⟨rfl, hE25863⟩
        have hzhE25863 := hE25863.size
        refine ⟨_, rfl, ?_⟩
        refine WL.nil (fun a_ ha => ?_)
        exact ⟨_, β, ha, hE25863, BExt.refl _ _, hbi.ext hE25863, rfl⟩
      · intro σ β w1 hE1 hbi hk
        have hz1 := hE1.size
        obtain ⟨_, hv25960, rfl⟩ := hk 32 (by kernel_rfl) _ _ rfl rfl
        obtain ⟨_, hv25961, rfl⟩ := hk 35 (by kernel_rfl) _ _ rfl rfl
        obtain ⟨_, hv25962, rfl⟩ := hk 38 (by kernel_rfl) _ _ rfl rfl
        refine ⟨[(68, .bool false), (71, .bool (Nd.light A && Nd.light B && Nd.same A B)), (74, .bool (Nd.light B && Nd.light A && Nd.same B A))], (agree_cons (look_right rfl hv25960) (agree_cons (look_right rfl hv25961) (agree_cons (look_right rfl hv25962) (agree_nil _)))), ?_⟩
        refine WL.neqB (b := false) rfl rfl Try.underlying4 rfl rfl (bne_eq_false_iff_eq.2 (Nd.o_same A B)) ?_
        refine WL.nil (fun a_ ha => ?_)
        exact ⟨_, β, ha, (Ext.refl _), BExt.refl _ _, hbi.ext (Ext.refl _), rfl⟩
      · intro σ β w1 hE1 hbi hk
        have hz1 := hE1.size
        obtain ⟨_, hv26060, rfl⟩ := hk 32 (by kernel_rfl) _ _ rfl rfl
        obtain ⟨_, hv26061, rfl⟩ := hk 39 (by kernel_rfl) _ _ rfl rfl
        refine ⟨[(68, .bool false), (75, .bool false)], (agree_cons (look_right rfl hv26060) (agree_cons (look_right rfl hv26061) (agree_nil _))), ?_⟩
        refine WL.pick_f rfl rfl rfl rfl ?_
        refine WL.nil (fun a_ ha => ?_)
        exact ⟨_, β, ha, (Ext.refl _), BExt.refl _ _, hbi.ext (Ext.refl _), rfl⟩
      · intro σ β w1 hE1 hbi hk
        have hz1 := hE1.size
        obtain ⟨_, hv26160, rfl⟩ := hk 40 (by kernel_rfl) _ _ rfl rfl
        refine ⟨[(76, .bool false)], (agree_cons (look_right rfl hv26160) (agree_nil _)), ?_⟩
        refine WL.move rfl rfl rfl ?_
        refine WL.nil (fun a_ ha => ?_)
        exact ⟨_, β, ha, (Ext.refl _), BExt.refl _ _, hbi.ext (Ext.refl _), rfl⟩
      · intro σ β w1 hE1 hbi hk
        have hz1 := hE1.size
        obtain ⟨_, hv26260, rfl⟩ := hk 41 (by kernel_rfl) _ _ rfl rfl
        refine ⟨[(77, .bool false)], (agree_cons (look_right rfl hv26260) (agree_nil _)), ?_⟩
        refine WL.load_box rfl rfl rfl (h20956.ext hE1) Ty.agg29 ?_
        refine WL.nil (fun a_ ha => ?_)
        exact ⟨_, β, ha, (Ext.refl _), BExt.refl _ _, hbi.ext (Ext.refl _), rfl⟩
      · intro σ β w1 hE1 hbi hk
        have hz1 := hE1.size
        obtain ⟨_, hv26360, rfl⟩ := hk 41 (by kernel_rfl) _ _ rfl rfl
        refine ⟨[(77, .bool false)], (agree_cons (look_right rfl hv26360) (agree_nil _)), ?_⟩
        refine WL.move rfl rfl rfl ?_
        refine WL.nil (fun a_ ha => ?_)
        exact ⟨_, β, ha, (Ext.refl _), BExt.refl _ _, hbi.ext (Ext.refl _), rfl⟩
      · intro σ β w1 hE1 hbi hk
        have hz1 := hE1.size
        obtain ⟨_, hv26460, rfl⟩ := hk 41 (by kernel_rfl) _ _ rfl rfl
        obtain ⟨_, hv26461, rfl⟩ := hk 43 (by kernel_rfl) _ _ rfl rfl
        refine ⟨[(77, .bool false), (79, .slice axs xs.length capxs)], (agree_cons (look_right rfl hv26460) (agree_cons (look_right rfl hv26461) (agree_nil _))), ?_⟩
        refine WL.call rfl rfl rfl Ty.ent9 (made_at hA _ _ _ _ (hxxs.ext ((((hB40.onto (hB36.onto (hB32.onto ((((((hE2.trans hE5).trans hE8).trans hE11).trans hE17).trans hE23).trans hE29) (by omega)) (by omega)) (by omega)).trans hE946).trans hE952).trans hE1))) ?_
        rintro _ w26464 ⟨l26462, rfl, hr26462, hE26463⟩
        have hzhE26463 := hE26463.size
        refine ⟨_, rfl, ?_⟩
        have hn26462 := hr26462.lt
        obtain ⟨sl26462, rfl, hts26462⟩ := hn26462.opn
        obtain ⟨a26462, cap26462, rfl, hlen26462, -⟩ := hts26462.get
        refine WL.nil (fun a_ ha => ?_)
        exact ⟨_, β, ha, hE26463, BExt.refl _ _, hbi.ext hE26463, ⟨_, rfl, (hr26462.off0 hbi (fun k hk => Nat.le_trans hE1.size hk))⟩⟩
      · intro σ β w1 hE1 hbi hk
        have hz1 := hE1.size
        obtain ⟨_, hv26560, rfl⟩ := hk 41 (by kernel_rfl) _ _ rfl rfl
        obtain ⟨_, hv26561, rfl⟩ := hk 42 (by kernel_rfl) _ _ rfl rfl
        obtain ⟨_, hv26562, l26562, rfl, hn26562⟩ := hk 44 (by kernel_rfl) _ _ rfl rfl
        have hn26562 := hn26562.lt
        obtain ⟨sl26562, rfl, hts26562⟩ := hn26562.opn
        obtain ⟨a26562, cap26562, rfl, hlen26562, -⟩ := hts26562.get
        refine ⟨[(77, .bool false), (78, .agg #[.int .u8 A.kind, .int .u64 A.set.a, .int .u64 A.set.b, .int .u64 A.set.c, .int .u64 A.set.d, .int .i64 A.least, .int .i64 A.most, .slice a4 A.subs.length cap4]), (80, .agg #[.int .u8 A.kind, .int .u64 A.set.a, .int .u64 A.set.b, .int .u64 A.set.c, .int .u64 A.set.d, .int .i64 A.least, .int .i64 A.most, .slice a26562 A.subs.length cap26562])], (agree_cons (look_right rfl hv26560) (agree_cons (look_right rfl hv26561) (agree_cons (look_right rfl hv26562) (agree_nil _)))), ?_⟩
        refine WL.call rfl rfl rfl Ty.ent14 (Same_ok _ _ _ _ _ A A (h20954.ext hE1) hn26562) ?_
        rintro _ w26564 ⟨he, hE26563⟩
        have hq : (Nd.light A && Nd.light A && Nd.same A A) = true := (Nd.Same_self hfA.light)
        rw [hq] at he
        subst he
        clear hq
        have hzhE26563 := hE26563.size
        refine ⟨_, rfl, ?_⟩
        refine WL.nil (fun a_ ha => ?_)
        exact ⟨_, β, ha, hE26563, BExt.refl _ _, hbi.ext hE26563, rfl⟩
      · intro σ β w1 hE1 hbi hk
        have hz1 := hE1.size
        obtain ⟨_, hv26660, rfl⟩ := hk 41 (by kernel_rfl) _ _ rfl rfl
        obtain ⟨_, hv26661, rfl⟩ := hk 45 (by kernel_rfl) _ _ rfl rfl
        refine ⟨[(77, .bool false), (81, .bool true)], (agree_cons (look_right rfl hv26660) (agree_cons (look_right rfl hv26661) (agree_nil _))), ?_⟩
        refine WL.not rfl rfl rfl ?_
        refine WL.nil (fun a_ ha => ?_)
        exact ⟨_, β, ha, (Ext.refl _), BExt.refl _ _, hbi.ext (Ext.refl _), rfl⟩
      · intro σ β w1 hE1 hbi hk
        have hz1 := hE1.size
        obtain ⟨_, hv26760, rfl⟩ := hk 41 (by kernel_rfl) _ _ rfl rfl
        obtain ⟨_, hv26761, rfl⟩ := hk 46 (by kernel_rfl) _ _ rfl rfl
        refine ⟨[(77, .bool false), (82, .bool false)], (agree_cons (look_right rfl hv26760) (agree_cons (look_right rfl hv26761) (agree_nil _))), ?_⟩
        refine WL.pick_f rfl rfl rfl rfl ?_
        refine WL.nil (fun a_ ha => ?_)
        exact ⟨_, β, ha, (Ext.refl _), BExt.refl _ _, hbi.ext (Ext.refl _), rfl⟩
      intro σ β w21859 hE21859 hbi21859 hk
      have hz21859 := hE21859.size
      have hbi := hbi21859
      obtain ⟨_, hv21860, rfl⟩ := hk 47 (by decide) _ _ rfl rfl
      refine WL.know [(83, .bool false)] (agree_cons (look_right rfl hv21860) (agree_nil _)) ?_
      refine WL.nil (fun a_ ha => ?_)
      exact ⟨ha.weaken (subReg_cons rfl (subReg_cons rfl (subReg_cons rfl (subReg_cons rfl (subReg_cons rfl (subReg_cons rfl (subReg_nil _))))))), hE21859⟩
    | true =>
      cases hbc : decide ((Nd.compare B C : Int) ≤ 0) with
      | false =>
        have h80954 := ((h43.ext hE946).ext hE952)
        have h80955 := ((h45.ext hE946).ext hE952)
        have h80956 := ((h46.ext hE946).ext hE952)
        have h80957 := (((hB40.row hR35 (by omega)).ext hE946).ext hE952)
        have h80958 := ((h44.ext hE946).ext hE952)
        have h80959 := ((hR39.ext hE946).ext hE952)
        refine WC.weaken (r' := [(0, .slice axs xs.length capxs), (6, .bool false), (17, .bool false), (7, .pointer (some ⟨b13, 0, none⟩)), (8, .pointer (some ⟨b19, 0, none⟩)), (10, .int .i64 (Nd.compare A B)), (11, .int .i64 (Nd.compare B A)), (12, .int .i64 (Nd.compare B C)), (13, .int .i64 (Nd.compare A C))]) (subReg_cons rfl (subReg_cons rfl (subReg_cons rfl (subReg_cons rfl (subReg_cons rfl (subReg_cons rfl (subReg_cons rfl (subReg_cons rfl (subReg_cons rfl (subReg_nil _)))))))))) ?_
        refine WC.draw 48 [36, 37, 38, 39, 40, 41, 42, 43, 44, 45, 46, 47, 48, 49, 50, 51, 52, 53, 54, 55, 56, 57, 58, 59, 60, 61, 62, 63, 64, 65, 66, 67, 68, 69, 70, 71, 72, 73, 74, 75, 76, 77, 78, 79, 80, 81, 82, 83] [pc (.int .i64 (Nd.compare A B)), pc (.int .i64 (Nd.compare B A)), pc (.int .i64 (-(Nd.compare B A))), pc (.bool false), pc (.bool false), pc (.int .i64 (Nd.compare A B)), pc (.bool false), pc (.bool false), pc (.bool false), pc (.int .i64 (Nd.compare A B)), pc (.bool false), pc (.bool false), pc (.bool false), pc (.int .i64 (Nd.compare A B)), pc (.bool ((Nd.compare A B : Int) == 0)), pc (.agg #[.int .u8 A.kind, .int .u64 A.set.a, .int .u64 A.set.b, .int .u64 A.set.c, .int .u64 A.set.d, .int .i64 A.least, .int .i64 A.most, .slice a4 A.subs.length cap4]), pc (.agg #[.int .u8 B.kind, .int .u64 B.set.a, .int .u64 B.set.b, .int .u64 B.set.c, .int .u64 B.set.d, .int .i64 B.least, .int .i64 B.most, .slice a7 B.subs.length cap7]), pc (.bool (Nd.light A && Nd.light B && Nd.same A B)), pc (.bool false), pc (.bool false), pc (.bool false), pc (.int .i64 (Nd.compare A B)), pc (.bool true), pc (.bool true), pc (.int .i64 (Nd.compare B C)), pc (.bool false), pc (.bool false), pc (.bool false), pc (undef), pc (undef), pc (.bool false), pc (.bool false), pc (.bool false), pc (.agg #[.int .u8 A.kind, .int .u64 A.set.a, .int .u64 A.set.b, .int .u64 A.set.c, .int .u64 A.set.d, .int .i64 A.least, .int .i64 A.most, .slice a4 A.subs.length cap4]), pc (.agg #[.int .u8 B.kind, .int .u64 B.set.a, .int .u64 B.set.b, .int .u64 B.set.c, .int .u64 B.set.d, .int .i64 B.least, .int .i64 B.most, .slice a7 B.subs.length cap7]), pc (.bool (Nd.light A && Nd.light B && Nd.same A B)), pc (.agg #[.int .u8 B.kind, .int .u64 B.set.a, .int .u64 B.set.b, .int .u64 B.set.c, .int .u64 B.set.d, .int .i64 B.least, .int .i64 B.most, .slice a7 B.subs.length cap7]), pc (.agg #[.int .u8 A.kind, .int .u64 A.set.a, .int .u64 A.set.b, .int .u64 A.set.c, .int .u64 A.set.d, .int .i64 A.least, .int .i64 A.most, .slice a4 A.subs.length cap4]), pc (.bool (Nd.light B && Nd.light A && Nd.same B A)), pc (.bool false), pc (.bool false), pc (.bool false), pc (.agg #[.int .u8 A.kind, .int .u64 A.set.a, .int .u64 A.set.b, .int .u64 A.set.c, .int .u64 A.set.d, .int .i64 A.least, .int .i64 A.most, .slice a4 A.subs.length cap4]), pc (.slice axs xs.length capxs), pnode (fun k => w953.heap.size ≤ k) A, pc (.bool true), pc (.bool false), pc (.bool false)] (by kernel_rfl) (by kernel_rfl) ⟨KW_pc _, KW_pc _, KW_pc _, KW_pc _, KW_pc _, KW_pc _, KW_pc _, KW_pc _, KW_pc _, KW_pc _, KW_pc _, KW_pc _, KW_pc _, KW_pc _, KW_pc _, KW_pc _, KW_pc _, KW_pc _, KW_pc _, KW_pc _, KW_pc _, KW_pc _, KW_pc _, KW_pc _, KW_pc _, KW_pc _, KW_pc _, KW_pc _, KW_pc _, KW_pc _, KW_pc _, KW_pc _, KW_pc _, KW_pc _, KW_pc _, KW_pc _, KW_pc _, KW_pc _, KW_pc _, KW_pc _, KW_pc _, KW_pc _, KW_pc _, KW_pc _, KW_pnode _ _, KW_pc _, KW_pc _, KW_pc _, trivial⟩ rfl rfl rfl (StepsOn.cons ?_ (StepsOn.cons ?_ (StepsOn.cons ?_ (StepsOn.cons ?_ (StepsOn.cons ?_ (StepsOn.cons ?_ (StepsOn.cons ?_ (StepsOn.cons ?_ (StepsOn.cons ?_ (StepsOn.cons ?_ (StepsOn.cons ?_ (StepsOn.cons ?_ (StepsOn.cons ?_ (StepsOn.cons ?_ (StepsOn.cons ?_ (StepsOn.cons ?_ (StepsOn.cons ?_ (StepsOn.cons ?_ (StepsOn.cons ?_ (StepsOn.cons ?_ (StepsOn.cons ?_ (StepsOn.cons ?_ (StepsOn.cons ?_ (StepsOn.cons ?_ (StepsOn.cons ?_ (StepsOn.cons ?_ (StepsOn.cons ?_ (StepsOn.cons ?_ (StepsOn.cons ?_ (StepsOn.cons ?_ (StepsOn.cons ?_ (StepsOn.cons ?_ (StepsOn.cons ?_ (StepsOn.cons ?_ (StepsOn.cons ?_ (StepsOn.cons ?_ (StepsOn.cons ?_ (StepsOn.cons ?_ (StepsOn.cons ?_ (StepsOn.cons ?_ (StepsOn.cons ?_ (StepsOn.cons ?_ (StepsOn.cons ?_ (StepsOn.cons ?_ (StepsOn.cons ?_ (StepsOn.cons ?_ (StepsOn.cons ?_ (StepsOn.cons ?_ (StepsOn.nil _))))))))))))))))))))))))))))))))))))))))))))))))) ?_
        · intro σ β w1 hE1 hbi hk
          have hz1 := hE1.size
          refine ⟨[], (agree_nil _), ?_⟩
          refine WL.move rfl rfl rfl ?_
          refine WL.nil (fun a_ ha => ?_)
          exact ⟨_, β, ha, (Ext.refl _), BExt.refl _ _, hbi.ext (Ext.refl _), rfl⟩
        · intro σ β w1 hE1 hbi hk
          have hz1 := hE1.size
          refine ⟨[], (agree_nil _), ?_⟩
          refine WL.move rfl rfl rfl ?_
          refine WL.nil (fun a_ ha => ?_)
          exact ⟨_, β, ha, (Ext.refl _), BExt.refl _ _, hbi.ext (Ext.refl _), rfl⟩
        · intro σ β w1 hE1 hbi hk
          have hz1 := hE1.size
          obtain ⟨_, hv82260, rfl⟩ := hk 1 (by kernel_rfl) _ _ rfl rfl
          refine ⟨[(37, .int .i64 (Nd.compare B A))], (agree_cons (look_right rfl hv82260) (agree_nil _)), ?_⟩
          refine WL.neg (v := -(Nd.compare B A)) rfl rfl rfl (IntWalk.i64_in _ (by omega)) ?_
          refine WL.nil (fun a_ ha => ?_)
          exact ⟨_, β, ha, (Ext.refl _), BExt.refl _ _, hbi.ext (Ext.refl _), rfl⟩
        · intro σ β w1 hE1 hbi hk
          have hz1 := hE1.size
          obtain ⟨_, hv82360, rfl⟩ := hk 0 (by kernel_rfl) _ _ rfl rfl
          obtain ⟨_, hv82361, rfl⟩ := hk 2 (by kernel_rfl) _ _ rfl rfl
          refine ⟨[(36, .int .i64 (Nd.compare A B)), (38, .int .i64 (-(Nd.compare B A)))], (agree_cons (look_right rfl hv82360) (agree_cons (look_right rfl hv82361) (agree_nil _))), ?_⟩
          refine WL.neq (b := false) rfl rfl rfl rfl (bne_eq_false_iff_eq.2 (Nd.o_anti hfA hfB hkA hkB)) ?_
          refine WL.nil (fun a_ ha => ?_)
          exact ⟨_, β, ha, (Ext.refl _), BExt.refl _ _, hbi.ext (Ext.refl _), rfl⟩
        · intro σ β w1 hE1 hbi hk
          have hz1 := hE1.size
          obtain ⟨_, hv82460, rfl⟩ := hk 3 (by kernel_rfl) _ _ rfl rfl
          refine ⟨[(39, .bool false)], (agree_cons (look_right rfl hv82460) (agree_nil _)), ?_⟩
          refine WL.move rfl rfl rfl ?_
          refine WL.nil (fun a_ ha => ?_)
          exact ⟨_, β, ha, (Ext.refl _), BExt.refl _ _, hbi.ext (Ext.refl _), rfl⟩
        · intro σ β w1 hE1 hbi hk
          have hz1 := hE1.size
          obtain ⟨_, hv82560, rfl⟩ := hk 4 (by kernel_rfl) _ _ rfl rfl
          refine ⟨[(40, .bool false)], (agree_cons (look_right rfl hv82560) (agree_nil _)), ?_⟩
          refine WL.move rfl rfl rfl ?_
          refine WL.nil (fun a_ ha => ?_)
          exact ⟨_, β, ha, (Ext.refl _), BExt.refl _ _, hbi.ext (Ext.refl _), rfl⟩
        · intro σ β w1 hE1 hbi hk
          have hz1 := hE1.size
          obtain ⟨_, hv82660, rfl⟩ := hk 4 (by kernel_rfl) _ _ rfl rfl
          obtain ⟨_, hv82661, rfl⟩ := hk 5 (by kernel_rfl) _ _ rfl rfl
          refine ⟨[(40, .bool false), (41, .int .i64 (Nd.compare A B))], (agree_cons (look_right rfl hv82660) (agree_cons (look_right rfl hv82661) (agree_nil _))), ?_⟩
          refine WL.lss (b := false) rfl rfl rfl rfl (decide_eq_false (by have := Nd.o_bd hfA hfB hkA hkB; omega)) ?_
          refine WL.nil (fun a_ ha => ?_)
          exact ⟨_, β, ha, (Ext.refl _), BExt.refl _ _, hbi.ext (Ext.refl _), rfl⟩
        · intro σ β w1 hE1 hbi hk
          have hz1 := hE1.size
          obtain ⟨_, hv82760, rfl⟩ := hk 4 (by kernel_rfl) _ _ rfl rfl
          obtain ⟨_, hv82761, rfl⟩ := hk 6 (by kernel_rfl) _ _ rfl rfl
          refine ⟨[(40, .bool false), (42, .bool false)], (agree_cons (look_right rfl hv82760) (agree_cons (look_right rfl hv82761) (agree_nil _))), ?_⟩
          refine WL.pick_f rfl rfl rfl rfl ?_
          refine WL.nil (fun a_ ha => ?_)
          exact ⟨_, β, ha, (Ext.refl _), BExt.refl _ _, hbi.ext (Ext.refl _), rfl⟩
        · intro σ β w1 hE1 hbi hk
          have hz1 := hE1.size
          obtain ⟨_, hv82860, rfl⟩ := hk 7 (by kernel_rfl) _ _ rfl rfl
          refine ⟨[(43, .bool false)], (agree_cons (look_right rfl hv82860) (agree_nil _)), ?_⟩
          refine WL.move rfl rfl rfl ?_
          refine WL.nil (fun a_ ha => ?_)
          exact ⟨_, β, ha, (Ext.refl _), BExt.refl _ _, hbi.ext (Ext.refl _), rfl⟩
        · intro σ β w1 hE1 hbi hk
          have hz1 := hE1.size
          obtain ⟨_, hv82960, rfl⟩ := hk 8 (by kernel_rfl) _ _ rfl rfl
          refine ⟨[(44, .bool false)], (agree_cons (look_right rfl hv82960) (agree_nil _)), ?_⟩
          refine WL.move rfl rfl rfl ?_
          refine WL.nil (fun a_ ha => ?_)
          exact ⟨_, β, ha, (Ext.refl _), BExt.refl _ _, hbi.ext (Ext.refl _), rfl⟩
        · intro σ β w1 hE1 hbi hk
          have hz1 := hE1.size
          obtain ⟨_, hv83060, rfl⟩ := hk 8 (by kernel_rfl) _ _ rfl rfl
          obtain ⟨_, hv83061, rfl⟩ := hk 9 (by kernel_rfl) _ _ rfl rfl
          refine ⟨[(44, .bool false), (45, .int .i64 (Nd.compare A B))], (agree_cons (look_right rfl hv83060) (agree_cons (look_right rfl hv83061) (agree_nil _))), ?_⟩
          refine WL.gtr (b := false) rfl rfl rfl rfl (decide_eq_false (by have := Nd.o_bd hfA hfB hkA hkB; omega)) ?_
          refine WL.nil (fun a_ ha => ?_)
          exact ⟨_, β, ha, (Ext.refl _), BExt.refl _ _, hbi.ext (Ext.refl _), rfl⟩
        · intro σ β w1 hE1 hbi hk
          have hz1 := hE1.size
          obtain ⟨_, hv83160, rfl⟩ := hk 8 (by kernel_rfl) _ _ rfl rfl
          obtain ⟨_, hv83161, rfl⟩ := hk 10 (by kernel_rfl) _ _ rfl rfl
          refine ⟨[(44, .bool false), (46, .bool false)], (agree_cons (look_right rfl hv83160) (agree_cons (look_right rfl hv83161) (agree_nil _))), ?_⟩
          refine WL.pick_f rfl rfl rfl rfl ?_
          refine WL.nil (fun a_ ha => ?_)
          exact ⟨_, β, ha, (Ext.refl _), BExt.refl _ _, hbi.ext (Ext.refl _), rfl⟩
        · intro σ β w1 hE1 hbi hk
          have hz1 := hE1.size
          obtain ⟨_, hv83260, rfl⟩ := hk 11 (by kernel_rfl) _ _ rfl rfl
          refine ⟨[(47, .bool false)], (agree_cons (look_right rfl hv83260) (agree_nil _)), ?_⟩
          refine WL.move rfl rfl rfl ?_
          refine WL.nil (fun a_ ha => ?_)
          exact ⟨_, β, ha, (Ext.refl _), BExt.refl _ _, hbi.ext (Ext.refl _), rfl⟩
        · intro σ β w1 hE1 hbi hk
          have hz1 := hE1.size
          obtain ⟨_, hv83360, rfl⟩ := hk 12 (by kernel_rfl) _ _ rfl rfl
          refine ⟨[(48, .bool false)], (agree_cons (look_right rfl hv83360) (agree_nil _)), ?_⟩
          refine WL.move rfl rfl rfl ?_
          refine WL.nil (fun a_ ha => ?_)
          exact ⟨_, β, ha, (Ext.refl _), BExt.refl _ _, hbi.ext (Ext.refl _), rfl⟩
        · intro σ β w1 hE1 hbi hk
          have hz1 := hE1.size
          obtain ⟨_, hv83460, rfl⟩ := hk 12 (by kernel_rfl) _ _ rfl rfl
          obtain ⟨_, hv83461, rfl⟩ := hk 13 (by kernel_rfl) _ _ rfl rfl
          refine ⟨[(48, .bool false), (49, .int .i64 (Nd.compare A B))], (agree_cons (look_right rfl hv83460) (agree_cons (look_right rfl hv83461) (agree_nil _))), ?_⟩
          refine WL.eql rfl rfl rfl rfl rfl ?_
          refine WL.nil (fun a_ ha => ?_)
          exact ⟨_, β, ha, (Ext.refl _), BExt.refl _ _, hbi.ext (Ext.refl _), rfl⟩
        · intro σ β w1 hE1 hbi hk
          have hz1 := hE1.size
          obtain ⟨_, hv83560, rfl⟩ := hk 12 (by kernel_rfl) _ _ rfl rfl
          refine ⟨[(48, .bool false)], (agree_cons (look_right rfl hv83560) (agree_nil _)), ?_⟩
          refine WL.load_box rfl rfl rfl (h80956.ext hE1) Ty.agg29 ?_
          refine WL.nil (fun a_ ha => ?_)
          exact ⟨_, β, ha, (Ext.refl _), BExt.refl _ _, hbi.ext (Ext.refl _), rfl⟩
        · intro σ β w1 hE1 hbi hk
          have hz1 := hE1.size
          obtain ⟨_, hv83660, rfl⟩ := hk 12 (by kernel_rfl) _ _ rfl rfl
          refine ⟨[(48, .bool false)], (agree_cons (look_right rfl hv83660) (agree_nil _)), ?_⟩
          refine WL.load_box rfl rfl rfl (h80957.ext hE1) Ty.agg29 ?_
          refine WL.nil (fun a_ ha => ?_)
          exact ⟨_, β, ha, (Ext.refl _), BExt.refl _ _, hbi.ext (Ext.refl _), rfl⟩
        · intro σ β w1 hE1 hbi hk
          have hz1 := hE1.size
          obtain ⟨_, hv83760, rfl⟩ := hk 12 (by kernel_rfl) _ _ rfl rfl
          obtain ⟨_, hv83761, rfl⟩ := hk 15 (by kernel_rfl) _ _ rfl rfl
          obtain ⟨_, hv83762, rfl⟩ := hk 16 (by kernel_rfl) _ _ rfl rfl
          refine ⟨[(48, .bool false), (51, .agg #[.int .u8 A.kind, .int .u64 A.set.a, .int .u64 A.set.b, .int .u64 A.set.c, .int .u64 A.set.d, .int .i64 A.least, .int .i64 A.most, .slice a4 A.subs.length cap4]), (52, .agg #[.int .u8 B.kind, .int .u64 B.set.a, .int .u64 B.set.b, .int .u64 B.set.c, .int .u64 B.set.d, .int .i64 B.least, .int .i64 B.most, .slice a7 B.subs.length cap7])], (agree_cons (look_right rfl hv83760) (agree_cons (look_right rfl hv83761) (agree_cons (look_right rfl hv83762) (agree_nil _)))), ?_⟩
          refine WL.call rfl rfl rfl Ty.ent14 (Same_ok _ _ _ _ _ A B (h80954.ext hE1) (h80958.ext hE1)) ?_
          rintro _ w83764 ⟨rfl, hE83763⟩
          have hzhE83763 := hE83763.size
          refine ⟨_, rfl, ?_⟩
          refine WL.nil (fun a_ ha => ?_)
          exact ⟨_, β, ha, hE83763, BExt.refl _ _, hbi.ext hE83763, rfl⟩
        · intro σ β w1 hE1 hbi hk
          have hz1 := hE1.size
          obtain ⟨_, hv83860, rfl⟩ := hk 12 (by kernel_rfl) _ _ rfl rfl
          obtain ⟨_, hv83861, rfl⟩ := hk 14 (by kernel_rfl) _ _ rfl rfl
          obtain ⟨_, hv83862, rfl⟩ := hk 17 (by kernel_rfl) _ _ rfl rfl
          refine ⟨[(48, .bool false), (50, .bool ((Nd.compare A B : Int) == 0)), (53, .bool (Nd.light A && Nd.light B && Nd.same A B))], (agree_cons (look_right rfl hv83860) (agree_cons (look_right rfl hv83861) (agree_cons (look_right rfl hv83862) (agree_nil _)))), ?_⟩
          refine WL.neqB (b := false) rfl rfl Try.underlying4 rfl rfl (bne_eq_false_iff_eq.2 (Nd.o_eq hfA hfB hkA hkB)) ?_
          refine WL.nil (fun a_ ha => ?_)
          exact ⟨_, β, ha, (Ext.refl _), BExt.refl _ _, hbi.ext (Ext.refl _), rfl⟩
        · intro σ β w1 hE1 hbi hk
          have hz1 := hE1.size
          obtain ⟨_, hv83960, rfl⟩ := hk 12 (by kernel_rfl) _ _ rfl rfl
          obtain ⟨_, hv83961, rfl⟩ := hk 18 (by kernel_rfl) _ _ rfl rfl
          refine ⟨[(48, .bool false), (54, .bool false)], (agree_cons (look_right rfl hv83960) (agree_cons (look_right rfl hv83961) (agree_nil _))), ?_⟩
          refine WL.pick_f rfl rfl rfl rfl ?_
          refine WL.nil (fun a_ ha => ?_)
          exact ⟨_, β, ha, (Ext.refl _), BExt.refl _ _, hbi.ext (Ext.refl _), rfl⟩
        · intro σ β w1 hE1 hbi hk
          have hz1 := hE1.size
          obtain ⟨_, hv84060, rfl⟩ := hk 19 (by kernel_rfl) _ _ rfl rfl
          refine ⟨[(55, .bool false)], (agree_cons (look_right rfl hv84060) (agree_nil _)), ?_⟩
          refine WL.move rfl rfl rfl ?_
          refine WL.nil (fun a_ ha => ?_)
          exact ⟨_, β, ha, (Ext.refl _), BExt.refl _ _, hbi.ext (Ext.refl _), rfl⟩
        · intro σ β w1 hE1 hbi hk
          have hz1 := hE1.size
          obtain ⟨_, hv84160, rfl⟩ := hk 20 (by kernel_rfl) _ _ rfl rfl
          refine ⟨[(56, .bool false)], (agree_cons (look_right rfl hv84160) (agree_nil _)), ?_⟩
          refine WL.move rfl rfl rfl ?_
          refine WL.nil (fun a_ ha => ?_)
          exact ⟨_, β, ha, (Ext.refl _), BExt.refl _ _, hbi.ext (Ext.refl _), rfl⟩
        · intro σ β w1 hE1 hbi hk
          have hz1 := hE1.size
          obtain ⟨_, hv84260, rfl⟩ := hk 20 (by kernel_rfl) _ _ rfl rfl
          obtain ⟨_, hv84261, rfl⟩ := hk 21 (by kernel_rfl) _ _ rfl rfl
          refine ⟨[(56, .bool false), (57, .int .i64 (Nd.compare A B))], (agree_cons (look_right rfl hv84260) (agree_cons (look_right rfl hv84261) (agree_nil _))), ?_⟩
          refine WL.leq (b := true) rfl rfl rfl rfl hab ?_
          refine WL.nil (fun a_ ha => ?_)
          exact ⟨_, β, ha, (Ext.refl _), BExt.refl _ _, hbi.ext (Ext.refl _), rfl⟩
        · intro σ β w1 hE1 hbi hk
          have hz1 := hE1.size
          obtain ⟨_, hv84360, rfl⟩ := hk 20 (by kernel_rfl) _ _ rfl rfl
          obtain ⟨_, hv84361, rfl⟩ := hk 22 (by kernel_rfl) _ _ rfl rfl
          refine ⟨[(56, .bool false), (58, .bool true)], (agree_cons (look_right rfl hv84360) (agree_cons (look_right rfl hv84361) (agree_nil _))), ?_⟩
          refine WL.move rfl rfl rfl ?_
          refine WL.nil (fun a_ ha => ?_)
          exact ⟨_, β, ha, (Ext.refl _), BExt.refl _ _, hbi.ext (Ext.refl _), rfl⟩
        · intro σ β w1 hE1 hbi hk
          have hz1 := hE1.size
          obtain ⟨_, hv84460, rfl⟩ := hk 23 (by kernel_rfl) _ _ rfl rfl
          refine ⟨[(59, .bool true)], (agree_cons (look_right rfl hv84460) (agree_nil _)), ?_⟩
          refine WL.move rfl rfl rfl ?_
          refine WL.nil (fun a_ ha => ?_)
          exact ⟨_, β, ha, (Ext.refl _), BExt.refl _ _, hbi.ext (Ext.refl _), rfl⟩
        · intro σ β w1 hE1 hbi hk
          have hz1 := hE1.size
          obtain ⟨_, hv84560, rfl⟩ := hk 23 (by kernel_rfl) _ _ rfl rfl
          obtain ⟨_, hv84561, rfl⟩ := hk 24 (by kernel_rfl) _ _ rfl rfl
          refine ⟨[(59, .bool true), (60, .int .i64 (Nd.compare B C))], (agree_cons (look_right rfl hv84560) (agree_cons (look_right rfl hv84561) (agree_nil _))), ?_⟩
          refine WL.leq (b := false) rfl rfl rfl rfl hbc ?_
          refine WL.nil (fun a_ ha => ?_)
          exact ⟨_, β, ha, (Ext.refl _), BExt.refl _ _, hbi.ext (Ext.refl _), rfl⟩
        · intro σ β w1 hE1 hbi hk
          have hz1 := hE1.size
          obtain ⟨_, hv84660, rfl⟩ := hk 20 (by kernel_rfl) _ _ rfl rfl
          obtain ⟨_, hv84661, rfl⟩ := hk 23 (by kernel_rfl) _ _ rfl rfl
          obtain ⟨_, hv84662, rfl⟩ := hk 25 (by kernel_rfl) _ _ rfl rfl
          refine ⟨[(56, .bool false), (59, .bool true), (61, .bool false)], (agree_cons (look_right rfl hv84660) (agree_cons (look_right rfl hv84661) (agree_cons (look_right rfl hv84662) (agree_nil _)))), ?_⟩
          refine WL.pick_t rfl rfl rfl rfl ?_
          refine WL.nil (fun a_ ha => ?_)
          exact ⟨_, β, ha, (Ext.refl _), BExt.refl _ _, hbi.ext (Ext.refl _), rfl⟩
        · intro σ β w1 hE1 hbi hk
          have hz1 := hE1.size
          obtain ⟨_, hv84760, rfl⟩ := hk 20 (by kernel_rfl) _ _ rfl rfl
          obtain ⟨_, hv84761, rfl⟩ := hk 26 (by kernel_rfl) _ _ rfl rfl
          refine ⟨[(56, .bool false), (62, .bool false)], (agree_cons (look_right rfl hv84760) (agree_cons (look_right rfl hv84761) (agree_nil _))), ?_⟩
          refine WL.move rfl rfl rfl ?_
          refine WL.nil (fun a_ ha => ?_)
          exact ⟨_, β, ha, (Ext.refl _), BExt.refl _ _, hbi.ext (Ext.refl _), rfl⟩
        · intro σ β w1 hE1 hbi hk
          have hz1 := hE1.size
          obtain ⟨_, hv84860, rfl⟩ := hk 27 (by kernel_rfl) _ _ rfl rfl
          refine ⟨[(63, .bool false)], (agree_cons (look_right rfl hv84860) (agree_nil _)), ?_⟩
          refine WL.pass rfl rfl ?_
          refine WL.nil (fun a_ ha => ?_)
          exact ⟨_, β, ha, (Ext.refl _), BExt.refl _ _, hbi.ext (Ext.refl _), rfl⟩
        · intro σ β w1 hE1 hbi hk
          have hz1 := hE1.size
          obtain ⟨_, hv84960, rfl⟩ := hk 27 (by kernel_rfl) _ _ rfl rfl
          obtain ⟨_, hv84961, rfl⟩ := hk 28 (by kernel_rfl) _ _ rfl rfl
          refine ⟨[(63, .bool false), (64, undef)], (agree_cons (look_right rfl hv84960) (agree_cons (look_right rfl hv84961) (agree_nil _))), ?_⟩
          refine WL.pass rfl rfl ?_
          refine WL.nil (fun a_ ha => ?_)
          exact ⟨_, β, ha, (Ext.refl _), BExt.refl _ _, hbi.ext (Ext.refl _), rfl⟩
        · intro σ β w1 hE1 hbi hk
          have hz1 := hE1.size
          obtain ⟨_, hv85060, rfl⟩ := hk 20 (by kernel_rfl) _ _ rfl rfl
          obtain ⟨_, hv85061, rfl⟩ := hk 27 (by kernel_rfl) _ _ rfl rfl
          obtain ⟨_, hv85062, rfl⟩ := hk 29 (by kernel_rfl) _ _ rfl rfl
          refine ⟨[(56, .bool false), (63, .bool false), (65, undef)], (agree_cons (look_right rfl hv85060) (agree_cons (look_right rfl hv85061) (agree_cons (look_right rfl hv85062) (agree_nil _)))), ?_⟩
          refine WL.pick_f rfl rfl rfl rfl ?_
          refine WL.nil (fun a_ ha => ?_)
          exact ⟨_, β, ha, (Ext.refl _), BExt.refl _ _, hbi.ext (Ext.refl _), rfl⟩
        · intro σ β w1 hE1 hbi hk
          have hz1 := hE1.size
          obtain ⟨_, hv85160, rfl⟩ := hk 20 (by kernel_rfl) _ _ rfl rfl
          obtain ⟨_, hv85161, rfl⟩ := hk 30 (by kernel_rfl) _ _ rfl rfl
          refine ⟨[(56, .bool false), (66, .bool false)], (agree_cons (look_right rfl hv85160) (agree_cons (look_right rfl hv85161) (agree_nil _))), ?_⟩
          refine WL.pick_f rfl rfl rfl rfl ?_
          refine WL.nil (fun a_ ha => ?_)
          exact ⟨_, β, ha, (Ext.refl _), BExt.refl _ _, hbi.ext (Ext.refl _), rfl⟩
        · intro σ β w1 hE1 hbi hk
          have hz1 := hE1.size
          obtain ⟨_, hv85260, rfl⟩ := hk 31 (by kernel_rfl) _ _ rfl rfl
          refine ⟨[(67, .bool false)], (agree_cons (look_right rfl hv85260) (agree_nil _)), ?_⟩
          refine WL.move rfl rfl rfl ?_
          refine WL.nil (fun a_ ha => ?_)
          exact ⟨_, β, ha, (Ext.refl _), BExt.refl _ _, hbi.ext (Ext.refl _), rfl⟩
        · intro σ β w1 hE1 hbi hk
          have hz1 := hE1.size
          obtain ⟨_, hv85360, rfl⟩ := hk 32 (by kernel_rfl) _ _ rfl rfl
          refine ⟨[(68, .bool false)], (agree_cons (look_right rfl hv85360) (agree_nil _)), ?_⟩
          refine WL.load_box rfl rfl rfl (h80956.ext hE1) Ty.agg29 ?_
          refine WL.nil (fun a_ ha => ?_)
          exact ⟨_, β, ha, (Ext.refl _), BExt.refl _ _, hbi.ext (Ext.refl _), rfl⟩
        · intro σ β w1 hE1 hbi hk
          have hz1 := hE1.size
          obtain ⟨_, hv85460, rfl⟩ := hk 32 (by kernel_rfl) _ _ rfl rfl
          refine ⟨[(68, .bool false)], (agree_cons (look_right rfl hv85460) (agree_nil _)), ?_⟩
          refine WL.load_box rfl rfl rfl (h80957.ext hE1) Ty.agg29 ?_
          refine WL.nil (fun a_ ha => ?_)
          exact ⟨_, β, ha, (Ext.refl _), BExt.refl _ _, hbi.ext (Ext.refl _), rfl⟩
        · intro σ β w1 hE1 hbi hk
          have hz1 := hE1.size
          obtain ⟨_, hv85560, rfl⟩ := hk 32 (by kernel_rfl) _ _ rfl rfl
          obtain ⟨_, hv85561, rfl⟩ := hk 33 (by kernel_rfl) _ _ rfl rfl
          obtain ⟨_, hv85562, rfl⟩ := hk 34 (by kernel_rfl) _ _ rfl rfl
          refine ⟨[(68, .bool false), (69, .agg #[.int .u8 A.kind, .int .u64 A.set.a, .int .u64 A.set.b, .int .u64 A.set.c, .int .u64 A.set.d, .int .i64 A.least, .int .i64 A.most, .slice a4 A.subs.length cap4]), (70, .agg #[.int .u8 B.kind, .int .u64 B.set.a, .int .u64 B.set.b, .int .u64 B.set.c, .int .u64 B.set.d, .int .i64 B.least, .int .i64 B.most, .slice a7 B.subs.length cap7])], (agree_cons (look_right rfl hv85560) (agree_cons (look_right rfl hv85561) (agree_cons (look_right rfl hv85562) (agree_nil _)))), ?_⟩
          refine WL.call rfl rfl rfl Ty.ent14 (Same_ok _ _ _ _ _ A B (h80954.ext hE1) (h80958.ext hE1)) ?_
          rintro _ w85564 ⟨rfl, hE85563⟩
          have hzhE85563 := hE85563.size
          refine ⟨_, rfl, ?_⟩
          refine WL.nil (fun a_ ha => ?_)
          exact ⟨_, β, ha, hE85563, BExt.refl _ _, hbi.ext hE85563, rfl⟩
        · intro σ β w1 hE1 hbi hk
          have hz1 := hE1.size
          obtain ⟨_, hv85660, rfl⟩ := hk 32 (by kernel_rfl) _ _ rfl rfl
          refine ⟨[(68, .bool false)], (agree_cons (look_right rfl hv85660) (agree_nil _)), ?_⟩
          refine WL.load_box rfl rfl rfl (h80957.ext hE1) Ty.agg29 ?_
          refine WL.nil (fun a_ ha => ?_)
          exact ⟨_, β, ha, (Ext.refl _), BExt.refl _ _, hbi.ext (Ext.refl _), rfl⟩
        · intro σ β w1 hE1 hbi hk
          have hz1 := hE1.size
          obtain ⟨_, hv85760, rfl⟩ := hk 32 (by kernel_rfl) _ _ rfl rfl
          refine ⟨[(68, .bool false)], (agree_cons (look_right rfl hv85760) (agree_nil _)), ?_⟩
          refine WL.load_box rfl rfl rfl (h80956.ext hE1) Ty.agg29 ?_
          refine WL.nil (fun a_ ha => ?_)
          exact ⟨_, β, ha, (Ext.refl _), BExt.refl _ _, hbi.ext (Ext.refl _), rfl⟩
        · intro σ β w1 hE1 hbi hk
          have hz1 := hE1.size
          obtain ⟨_, hv85860, rfl⟩ := hk 32 (by kernel_rfl) _ _ rfl rfl
          obtain ⟨_, hv85861, rfl⟩ := hk 36 (by kernel_rfl) _ _ rfl rfl
          obtain ⟨_, hv85862, rfl⟩ := hk 37 (by kernel_rfl) _ _ rfl rfl
          refine ⟨[(68, .bool false), (72, .agg #[.int .u8 B.kind, .int .u64 B.set.a, .int .u64 B.set.b, .int .u64 B.set.c, .int .u64 B.set.d, .int .i64 B.least, .int .i64 B.most, .slice a7 B.subs.length cap7]), (73, .agg #[.int .u8 A.kind, .int .u64 A.set.a, .int .u64 A.set.b, .int .u64 A.set.c, .int .u64 A.set.d, .int .i64 A.least, .int .i64 A.most, .slice a4 A.subs.length cap4])], (agree_cons (look_right rfl hv85860) (agree_cons (look_right rfl hv85861) (agree_cons (look_right rfl hv85862) (agree_nil _)))), ?_⟩
          refine WL.call rfl rfl rfl Ty.ent14 (Same_ok _ _ _ _ _ B A (h80958.ext hE1) (h80954.ext hE1)) ?_
          rintro _ w85864 ⟨rfl, hE85863⟩
          have hzhE85863 := hE85863.size
          refine ⟨_, rfl, ?_⟩
          refine WL.nil (fun a_ ha => ?_)
          exact ⟨_, β, ha, hE85863, BExt.refl _ _, hbi.ext hE85863, rfl⟩
        · intro σ β w1 hE1 hbi hk
          have hz1 := hE1.size
          obtain ⟨_, hv85960, rfl⟩ := hk 32 (by kernel_rfl) _ _ rfl rfl
          obtain ⟨_, hv85961, rfl⟩ := hk 35 (by kernel_rfl) _ _ rfl rfl
          obtain ⟨_, hv85962, rfl⟩ := hk 38 (by kernel_rfl) _ _ rfl rfl
          refine ⟨[(68, .bool false), (71, .bool (Nd.light A && Nd.light B && Nd.same A B)), (74, .bool (Nd.light B && Nd.light A && Nd.same B A))], (agree_cons (look_right rfl hv85960) (agree_cons (look_right rfl hv85961) (agree_cons (look_right rfl hv85962) (agree_nil _)))), ?_⟩
          refine WL.neqB (b := false) rfl rfl Try.underlying4 rfl rfl (bne_eq_false_iff_eq.2 (Nd.o_same A B)) ?_
          refine WL.nil (fun a_ ha => ?_)
          exact ⟨_, β, ha, (Ext.refl _), BExt.refl _ _, hbi.ext (Ext.refl _), rfl⟩
        · intro σ β w1 hE1 hbi hk
          have hz1 := hE1.size
          obtain ⟨_, hv86060, rfl⟩ := hk 32 (by kernel_rfl) _ _ rfl rfl
          obtain ⟨_, hv86061, rfl⟩ := hk 39 (by kernel_rfl) _ _ rfl rfl
          refine ⟨[(68, .bool false), (75, .bool false)], (agree_cons (look_right rfl hv86060) (agree_cons (look_right rfl hv86061) (agree_nil _))), ?_⟩
          refine WL.pick_f rfl rfl rfl rfl ?_
          refine WL.nil (fun a_ ha => ?_)
          exact ⟨_, β, ha, (Ext.refl _), BExt.refl _ _, hbi.ext (Ext.refl _), rfl⟩
        · intro σ β w1 hE1 hbi hk
          have hz1 := hE1.size
          obtain ⟨_, hv86160, rfl⟩ := hk 40 (by kernel_rfl) _ _ rfl rfl
          refine ⟨[(76, .bool false)], (agree_cons (look_right rfl hv86160) (agree_nil _)), ?_⟩
          refine WL.move rfl rfl rfl ?_
          refine WL.nil (fun a_ ha => ?_)
          exact ⟨_, β, ha, (Ext.refl _), BExt.refl _ _, hbi.ext (Ext.refl _), rfl⟩
        · intro σ β w1 hE1 hbi hk
          have hz1 := hE1.size
          obtain ⟨_, hv86260, rfl⟩ := hk 41 (by kernel_rfl) _ _ rfl rfl
          refine ⟨[(77, .bool false)], (agree_cons (look_right rfl hv86260) (agree_nil _)), ?_⟩
          refine WL.load_box rfl rfl rfl (h80956.ext hE1) Ty.agg29 ?_
          refine WL.nil (fun a_ ha => ?_)
          exact ⟨_, β, ha, (Ext.refl _), BExt.refl _ _, hbi.ext (Ext.refl _), rfl⟩
        · intro σ β w1 hE1 hbi hk
          have hz1 := hE1.size
          obtain ⟨_, hv86360, rfl⟩ := hk 41 (by kernel_rfl) _ _ rfl rfl
          refine ⟨[(77, .bool false)], (agree_cons (look_right rfl hv86360) (agree_nil _)), ?_⟩
          refine WL.move rfl rfl rfl ?_
          refine WL.nil (fun a_ ha => ?_)
          exact ⟨_, β, ha, (Ext.refl _), BExt.refl _ _, hbi.ext (Ext.refl _), rfl⟩
        · intro σ β w1 hE1 hbi hk
          have hz1 := hE1.size
          obtain ⟨_, hv86460, rfl⟩ := hk 41 (by kernel_rfl) _ _ rfl rfl
          obtain ⟨_, hv86461, rfl⟩ := hk 43 (by kernel_rfl) _ _ rfl rfl
          refine ⟨[(77, .bool false), (79, .slice axs xs.length capxs)], (agree_cons (look_right rfl hv86460) (agree_cons (look_right rfl hv86461) (agree_nil _))), ?_⟩
          refine WL.call rfl rfl rfl Ty.ent9 (made_at hA _ _ _ _ (hxxs.ext ((((hB40.onto (hB36.onto (hB32.onto ((((((hE2.trans hE5).trans hE8).trans hE11).trans hE17).trans hE23).trans hE29) (by omega)) (by omega)) (by omega)).trans hE946).trans hE952).trans hE1))) ?_
          rintro _ w86464 ⟨l86462, rfl, hr86462, hE86463⟩
          have hzhE86463 := hE86463.size
          refine ⟨_, rfl, ?_⟩
          have hn86462 := hr86462.lt
          obtain ⟨sl86462, rfl, hts86462⟩ := hn86462.opn
          obtain ⟨a86462, cap86462, rfl, hlen86462, -⟩ := hts86462.get
          refine WL.nil (fun a_ ha => ?_)
          exact ⟨_, β, ha, hE86463, BExt.refl _ _, hbi.ext hE86463, ⟨_, rfl, (hr86462.off0 hbi (fun k hk => Nat.le_trans hE1.size hk))⟩⟩
        · intro σ β w1 hE1 hbi hk
          have hz1 := hE1.size
          obtain ⟨_, hv86560, rfl⟩ := hk 41 (by kernel_rfl) _ _ rfl rfl
          obtain ⟨_, hv86561, rfl⟩ := hk 42 (by kernel_rfl) _ _ rfl rfl
          obtain ⟨_, hv86562, l86562, rfl, hn86562⟩ := hk 44 (by kernel_rfl) _ _ rfl rfl
          have hn86562 := hn86562.lt
          obtain ⟨sl86562, rfl, hts86562⟩ := hn86562.opn
          obtain ⟨a86562, cap86562, rfl, hlen86562, -⟩ := hts86562.get
          refine ⟨[(77, .bool false), (78, .agg #[.int .u8 A.kind, .int .u64 A.set.a, .int .u64 A.set.b, .int .u64 A.set.c, .int .u64 A.set.d, .int .i64 A.least, .int .i64 A.most, .slice a4 A.subs.length cap4]), (80, .agg #[.int .u8 A.kind, .int .u64 A.set.a, .int .u64 A.set.b, .int .u64 A.set.c, .int .u64 A.set.d, .int .i64 A.least, .int .i64 A.most, .slice a86562 A.subs.length cap86562])], (agree_cons (look_right rfl hv86560) (agree_cons (look_right rfl hv86561) (agree_cons (look_right rfl hv86562) (agree_nil _)))), ?_⟩
          refine WL.call rfl rfl rfl Ty.ent14 (Same_ok _ _ _ _ _ A A (h80954.ext hE1) hn86562) ?_
          rintro _ w86564 ⟨he, hE86563⟩
          have hq : (Nd.light A && Nd.light A && Nd.same A A) = true := (Nd.Same_self hfA.light)
          rw [hq] at he
          subst he
          clear hq
          have hzhE86563 := hE86563.size
          refine ⟨_, rfl, ?_⟩
          refine WL.nil (fun a_ ha => ?_)
          exact ⟨_, β, ha, hE86563, BExt.refl _ _, hbi.ext hE86563, rfl⟩
        · intro σ β w1 hE1 hbi hk
          have hz1 := hE1.size
          obtain ⟨_, hv86660, rfl⟩ := hk 41 (by kernel_rfl) _ _ rfl rfl
          obtain ⟨_, hv86661, rfl⟩ := hk 45 (by kernel_rfl) _ _ rfl rfl
          refine ⟨[(77, .bool false), (81, .bool true)], (agree_cons (look_right rfl hv86660) (agree_cons (look_right rfl hv86661) (agree_nil _))), ?_⟩
          refine WL.not rfl rfl rfl ?_
          refine WL.nil (fun a_ ha => ?_)
          exact ⟨_, β, ha, (Ext.refl _), BExt.refl _ _, hbi.ext (Ext.refl _), rfl⟩
        · intro σ β w1 hE1 hbi hk
          have hz1 := hE1.size
          obtain ⟨_, hv86760, rfl⟩ := hk 41 (by kernel_rfl) _ _ rfl rfl
          obtain ⟨_, hv86761, rfl⟩ := hk 46 (by kernel_rfl) _ _ rfl rfl
          refine ⟨[(77, .bool false), (82, .bool false)], (agree_cons (look_right rfl hv86760) (agree_cons (look_right rfl hv86761) (agree_nil _))), ?_⟩
          refine WL.pick_f rfl rfl rfl rfl ?_
          refine WL.nil (fun a_ ha => ?_)
          exact ⟨_, β, ha, (Ext.refl _), BExt.refl _ _, hbi.ext (Ext.refl _), rfl⟩
        intro σ β w81859 hE81859 hbi81859 hk
        have hz81859 := hE81859.size
        have hbi := hbi81859
        obtain ⟨_, hv81860, rfl⟩ := hk 47 (by decide) _ _ rfl rfl
        refine WL.know [(83, .bool false)] (agree_cons (look_right rfl hv81860) (agree_nil _)) ?_
        refine WL.nil (fun a_ ha => ?_)
        exact ⟨ha.weaken (subReg_cons rfl (subReg_cons rfl (subReg_cons rfl (subReg_cons rfl (subReg_cons rfl (subReg_cons rfl (subReg_nil _))))))), hE81859⟩
      | true =>
        have h80954 := ((h43.ext hE946).ext hE952)
        have h80955 := ((h45.ext hE946).ext hE952)
        have h80956 := ((h46.ext hE946).ext hE952)
        have h80957 := (((hB40.row hR35 (by omega)).ext hE946).ext hE952)
        have h80958 := ((h44.ext hE946).ext hE952)
        have h80959 := ((hR39.ext hE946).ext hE952)
        refine WC.weaken (r' := [(0, .slice axs xs.length capxs), (6, .bool false), (17, .bool false), (7, .pointer (some ⟨b13, 0, none⟩)), (8, .pointer (some ⟨b19, 0, none⟩)), (10, .int .i64 (Nd.compare A B)), (11, .int .i64 (Nd.compare B A)), (12, .int .i64 (Nd.compare B C)), (13, .int .i64 (Nd.compare A C))]) (subReg_cons rfl (subReg_cons rfl (subReg_cons rfl (subReg_cons rfl (subReg_cons rfl (subReg_cons rfl (subReg_cons rfl (subReg_cons rfl (subReg_cons rfl (subReg_nil _)))))))))) ?_
        refine WC.draw 48 [36, 37, 38, 39, 40, 41, 42, 43, 44, 45, 46, 47, 48, 49, 50, 51, 52, 53, 54, 55, 56, 57, 58, 59, 60, 61, 62, 63, 64, 65, 66, 67, 68, 69, 70, 71, 72, 73, 74, 75, 76, 77, 78, 79, 80, 81, 82, 83] [pc (.int .i64 (Nd.compare A B)), pc (.int .i64 (Nd.compare B A)), pc (.int .i64 (-(Nd.compare B A))), pc (.bool false), pc (.bool false), pc (.int .i64 (Nd.compare A B)), pc (.bool false), pc (.bool false), pc (.bool false), pc (.int .i64 (Nd.compare A B)), pc (.bool false), pc (.bool false), pc (.bool false), pc (.int .i64 (Nd.compare A B)), pc (.bool ((Nd.compare A B : Int) == 0)), pc (.agg #[.int .u8 A.kind, .int .u64 A.set.a, .int .u64 A.set.b, .int .u64 A.set.c, .int .u64 A.set.d, .int .i64 A.least, .int .i64 A.most, .slice a4 A.subs.length cap4]), pc (.agg #[.int .u8 B.kind, .int .u64 B.set.a, .int .u64 B.set.b, .int .u64 B.set.c, .int .u64 B.set.d, .int .i64 B.least, .int .i64 B.most, .slice a7 B.subs.length cap7]), pc (.bool (Nd.light A && Nd.light B && Nd.same A B)), pc (.bool false), pc (.bool false), pc (.bool false), pc (.int .i64 (Nd.compare A B)), pc (.bool true), pc (.bool true), pc (.int .i64 (Nd.compare B C)), pc (.bool true), pc (.bool true), pc (.bool true), pc (.int .i64 (Nd.compare A C)), pc (.bool false), pc (.bool false), pc (.bool false), pc (.bool false), pc (.agg #[.int .u8 A.kind, .int .u64 A.set.a, .int .u64 A.set.b, .int .u64 A.set.c, .int .u64 A.set.d, .int .i64 A.least, .int .i64 A.most, .slice a4 A.subs.length cap4]), pc (.agg #[.int .u8 B.kind, .int .u64 B.set.a, .int .u64 B.set.b, .int .u64 B.set.c, .int .u64 B.set.d, .int .i64 B.least, .int .i64 B.most, .slice a7 B.subs.length cap7]), pc (.bool (Nd.light A && Nd.light B && Nd.same A B)), pc (.agg #[.int .u8 B.kind, .int .u64 B.set.a, .int .u64 B.set.b, .int .u64 B.set.c, .int .u64 B.set.d, .int .i64 B.least, .int .i64 B.most, .slice a7 B.subs.length cap7]), pc (.agg #[.int .u8 A.kind, .int .u64 A.set.a, .int .u64 A.set.b, .int .u64 A.set.c, .int .u64 A.set.d, .int .i64 A.least, .int .i64 A.most, .slice a4 A.subs.length cap4]), pc (.bool (Nd.light B && Nd.light A && Nd.same B A)), pc (.bool false), pc (.bool false), pc (.bool false), pc (.agg #[.int .u8 A.kind, .int .u64 A.set.a, .int .u64 A.set.b, .int .u64 A.set.c, .int .u64 A.set.d, .int .i64 A.least, .int .i64 A.most, .slice a4 A.subs.length cap4]), pc (.slice axs xs.length capxs), pnode (fun k => w953.heap.size ≤ k) A, pc (.bool true), pc (.bool false), pc (.bool false)] (by kernel_rfl) (by kernel_rfl) ⟨KW_pc _, KW_pc _, KW_pc _, KW_pc _, KW_pc _, KW_pc _, KW_pc _, KW_pc _, KW_pc _, KW_pc _, KW_pc _, KW_pc _, KW_pc _, KW_pc _, KW_pc _, KW_pc _, KW_pc _, KW_pc _, KW_pc _, KW_pc _, KW_pc _, KW_pc _, KW_pc _, KW_pc _, KW_pc _, KW_pc _, KW_pc _, KW_pc _, KW_pc _, KW_pc _, KW_pc _, KW_pc _, KW_pc _, KW_pc _, KW_pc _, KW_pc _, KW_pc _, KW_pc _, KW_pc _, KW_pc _, KW_pc _, KW_pc _, KW_pc _, KW_pc _, KW_pnode _ _, KW_pc _, KW_pc _, KW_pc _, trivial⟩ rfl rfl rfl (StepsOn.cons ?_ (StepsOn.cons ?_ (StepsOn.cons ?_ (StepsOn.cons ?_ (StepsOn.cons ?_ (StepsOn.cons ?_ (StepsOn.cons ?_ (StepsOn.cons ?_ (StepsOn.cons ?_ (StepsOn.cons ?_ (StepsOn.cons ?_ (StepsOn.cons ?_ (StepsOn.cons ?_ (StepsOn.cons ?_ (StepsOn.cons ?_ (StepsOn.cons ?_ (StepsOn.cons ?_ (StepsOn.cons ?_ (StepsOn.cons ?_ (StepsOn.cons ?_ (StepsOn.cons ?_ (StepsOn.cons ?_ (StepsOn.cons ?_ (StepsOn.cons ?_ (StepsOn.cons ?_ (StepsOn.cons ?_ (StepsOn.cons ?_ (StepsOn.cons ?_ (StepsOn.cons ?_ (StepsOn.cons ?_ (StepsOn.cons ?_ (StepsOn.cons ?_ (StepsOn.cons ?_ (StepsOn.cons ?_ (StepsOn.cons ?_ (StepsOn.cons ?_ (StepsOn.cons ?_ (StepsOn.cons ?_ (StepsOn.cons ?_ (StepsOn.cons ?_ (StepsOn.cons ?_ (StepsOn.cons ?_ (StepsOn.cons ?_ (StepsOn.cons ?_ (StepsOn.cons ?_ (StepsOn.cons ?_ (StepsOn.cons ?_ (StepsOn.cons ?_ (StepsOn.nil _))))))))))))))))))))))))))))))))))))))))))))))))) ?_
        · intro σ β w1 hE1 hbi hk
          have hz1 := hE1.size
          refine ⟨[], (agree_nil _), ?_⟩
          refine WL.move rfl rfl rfl ?_
          refine WL.nil (fun a_ ha => ?_)
          exact ⟨_, β, ha, (Ext.refl _), BExt.refl _ _, hbi.ext (Ext.refl _), rfl⟩
        · intro σ β w1 hE1 hbi hk
          have hz1 := hE1.size
          refine ⟨[], (agree_nil _), ?_⟩
          refine WL.move rfl rfl rfl ?_
          refine WL.nil (fun a_ ha => ?_)
          exact ⟨_, β, ha, (Ext.refl _), BExt.refl _ _, hbi.ext (Ext.refl _), rfl⟩
        · intro σ β w1 hE1 hbi hk
          have hz1 := hE1.size
          obtain ⟨_, hv82260, rfl⟩ := hk 1 (by kernel_rfl) _ _ rfl rfl
          refine ⟨[(37, .int .i64 (Nd.compare B A))], (agree_cons (look_right rfl hv82260) (agree_nil _)), ?_⟩
          refine WL.neg (v := -(Nd.compare B A)) rfl rfl rfl (IntWalk.i64_in _ (by omega)) ?_
          refine WL.nil (fun a_ ha => ?_)
          exact ⟨_, β, ha, (Ext.refl _), BExt.refl _ _, hbi.ext (Ext.refl _), rfl⟩
        · intro σ β w1 hE1 hbi hk
          have hz1 := hE1.size
          obtain ⟨_, hv82360, rfl⟩ := hk 0 (by kernel_rfl) _ _ rfl rfl
          obtain ⟨_, hv82361, rfl⟩ := hk 2 (by kernel_rfl) _ _ rfl rfl
          refine ⟨[(36, .int .i64 (Nd.compare A B)), (38, .int .i64 (-(Nd.compare B A)))], (agree_cons (look_right rfl hv82360) (agree_cons (look_right rfl hv82361) (agree_nil _))), ?_⟩
          refine WL.neq (b := false) rfl rfl rfl rfl (bne_eq_false_iff_eq.2 (Nd.o_anti hfA hfB hkA hkB)) ?_
          refine WL.nil (fun a_ ha => ?_)
          exact ⟨_, β, ha, (Ext.refl _), BExt.refl _ _, hbi.ext (Ext.refl _), rfl⟩
        · intro σ β w1 hE1 hbi hk
          have hz1 := hE1.size
          obtain ⟨_, hv82460, rfl⟩ := hk 3 (by kernel_rfl) _ _ rfl rfl
          refine ⟨[(39, .bool false)], (agree_cons (look_right rfl hv82460) (agree_nil _)), ?_⟩
          refine WL.move rfl rfl rfl ?_
          refine WL.nil (fun a_ ha => ?_)
          exact ⟨_, β, ha, (Ext.refl _), BExt.refl _ _, hbi.ext (Ext.refl _), rfl⟩
        · intro σ β w1 hE1 hbi hk
          have hz1 := hE1.size
          obtain ⟨_, hv82560, rfl⟩ := hk 4 (by kernel_rfl) _ _ rfl rfl
          refine ⟨[(40, .bool false)], (agree_cons (look_right rfl hv82560) (agree_nil _)), ?_⟩
          refine WL.move rfl rfl rfl ?_
          refine WL.nil (fun a_ ha => ?_)
          exact ⟨_, β, ha, (Ext.refl _), BExt.refl _ _, hbi.ext (Ext.refl _), rfl⟩
        · intro σ β w1 hE1 hbi hk
          have hz1 := hE1.size
          obtain ⟨_, hv82660, rfl⟩ := hk 4 (by kernel_rfl) _ _ rfl rfl
          obtain ⟨_, hv82661, rfl⟩ := hk 5 (by kernel_rfl) _ _ rfl rfl
          refine ⟨[(40, .bool false), (41, .int .i64 (Nd.compare A B))], (agree_cons (look_right rfl hv82660) (agree_cons (look_right rfl hv82661) (agree_nil _))), ?_⟩
          refine WL.lss (b := false) rfl rfl rfl rfl (decide_eq_false (by have := Nd.o_bd hfA hfB hkA hkB; omega)) ?_
          refine WL.nil (fun a_ ha => ?_)
          exact ⟨_, β, ha, (Ext.refl _), BExt.refl _ _, hbi.ext (Ext.refl _), rfl⟩
        · intro σ β w1 hE1 hbi hk
          have hz1 := hE1.size
          obtain ⟨_, hv82760, rfl⟩ := hk 4 (by kernel_rfl) _ _ rfl rfl
          obtain ⟨_, hv82761, rfl⟩ := hk 6 (by kernel_rfl) _ _ rfl rfl
          refine ⟨[(40, .bool false), (42, .bool false)], (agree_cons (look_right rfl hv82760) (agree_cons (look_right rfl hv82761) (agree_nil _))), ?_⟩
          refine WL.pick_f rfl rfl rfl rfl ?_
          refine WL.nil (fun a_ ha => ?_)
          exact ⟨_, β, ha, (Ext.refl _), BExt.refl _ _, hbi.ext (Ext.refl _), rfl⟩
        · intro σ β w1 hE1 hbi hk
          have hz1 := hE1.size
          obtain ⟨_, hv82860, rfl⟩ := hk 7 (by kernel_rfl) _ _ rfl rfl
          refine ⟨[(43, .bool false)], (agree_cons (look_right rfl hv82860) (agree_nil _)), ?_⟩
          refine WL.move rfl rfl rfl ?_
          refine WL.nil (fun a_ ha => ?_)
          exact ⟨_, β, ha, (Ext.refl _), BExt.refl _ _, hbi.ext (Ext.refl _), rfl⟩
        · intro σ β w1 hE1 hbi hk
          have hz1 := hE1.size
          obtain ⟨_, hv82960, rfl⟩ := hk 8 (by kernel_rfl) _ _ rfl rfl
          refine ⟨[(44, .bool false)], (agree_cons (look_right rfl hv82960) (agree_nil _)), ?_⟩
          refine WL.move rfl rfl rfl ?_
          refine WL.nil (fun a_ ha => ?_)
          exact ⟨_, β, ha, (Ext.refl _), BExt.refl _ _, hbi.ext (Ext.refl _), rfl⟩
        · intro σ β w1 hE1 hbi hk
          have hz1 := hE1.size
          obtain ⟨_, hv83060, rfl⟩ := hk 8 (by kernel_rfl) _ _ rfl rfl
          obtain ⟨_, hv83061, rfl⟩ := hk 9 (by kernel_rfl) _ _ rfl rfl
          refine ⟨[(44, .bool false), (45, .int .i64 (Nd.compare A B))], (agree_cons (look_right rfl hv83060) (agree_cons (look_right rfl hv83061) (agree_nil _))), ?_⟩
          refine WL.gtr (b := false) rfl rfl rfl rfl (decide_eq_false (by have := Nd.o_bd hfA hfB hkA hkB; omega)) ?_
          refine WL.nil (fun a_ ha => ?_)
          exact ⟨_, β, ha, (Ext.refl _), BExt.refl _ _, hbi.ext (Ext.refl _), rfl⟩
        · intro σ β w1 hE1 hbi hk
          have hz1 := hE1.size
          obtain ⟨_, hv83160, rfl⟩ := hk 8 (by kernel_rfl) _ _ rfl rfl
          obtain ⟨_, hv83161, rfl⟩ := hk 10 (by kernel_rfl) _ _ rfl rfl
          refine ⟨[(44, .bool false), (46, .bool false)], (agree_cons (look_right rfl hv83160) (agree_cons (look_right rfl hv83161) (agree_nil _))), ?_⟩
          refine WL.pick_f rfl rfl rfl rfl ?_
          refine WL.nil (fun a_ ha => ?_)
          exact ⟨_, β, ha, (Ext.refl _), BExt.refl _ _, hbi.ext (Ext.refl _), rfl⟩
        · intro σ β w1 hE1 hbi hk
          have hz1 := hE1.size
          obtain ⟨_, hv83260, rfl⟩ := hk 11 (by kernel_rfl) _ _ rfl rfl
          refine ⟨[(47, .bool false)], (agree_cons (look_right rfl hv83260) (agree_nil _)), ?_⟩
          refine WL.move rfl rfl rfl ?_
          refine WL.nil (fun a_ ha => ?_)
          exact ⟨_, β, ha, (Ext.refl _), BExt.refl _ _, hbi.ext (Ext.refl _), rfl⟩
        · intro σ β w1 hE1 hbi hk
          have hz1 := hE1.size
          obtain ⟨_, hv83360, rfl⟩ := hk 12 (by kernel_rfl) _ _ rfl rfl
          refine ⟨[(48, .bool false)], (agree_cons (look_right rfl hv83360) (agree_nil _)), ?_⟩
          refine WL.move rfl rfl rfl ?_
          refine WL.nil (fun a_ ha => ?_)
          exact ⟨_, β, ha, (Ext.refl _), BExt.refl _ _, hbi.ext (Ext.refl _), rfl⟩
        · intro σ β w1 hE1 hbi hk
          have hz1 := hE1.size
          obtain ⟨_, hv83460, rfl⟩ := hk 12 (by kernel_rfl) _ _ rfl rfl
          obtain ⟨_, hv83461, rfl⟩ := hk 13 (by kernel_rfl) _ _ rfl rfl
          refine ⟨[(48, .bool false), (49, .int .i64 (Nd.compare A B))], (agree_cons (look_right rfl hv83460) (agree_cons (look_right rfl hv83461) (agree_nil _))), ?_⟩
          refine WL.eql rfl rfl rfl rfl rfl ?_
          refine WL.nil (fun a_ ha => ?_)
          exact ⟨_, β, ha, (Ext.refl _), BExt.refl _ _, hbi.ext (Ext.refl _), rfl⟩
        · intro σ β w1 hE1 hbi hk
          have hz1 := hE1.size
          obtain ⟨_, hv83560, rfl⟩ := hk 12 (by kernel_rfl) _ _ rfl rfl
          refine ⟨[(48, .bool false)], (agree_cons (look_right rfl hv83560) (agree_nil _)), ?_⟩
          refine WL.load_box rfl rfl rfl (h80956.ext hE1) Ty.agg29 ?_
          refine WL.nil (fun a_ ha => ?_)
          exact ⟨_, β, ha, (Ext.refl _), BExt.refl _ _, hbi.ext (Ext.refl _), rfl⟩
        · intro σ β w1 hE1 hbi hk
          have hz1 := hE1.size
          obtain ⟨_, hv83660, rfl⟩ := hk 12 (by kernel_rfl) _ _ rfl rfl
          refine ⟨[(48, .bool false)], (agree_cons (look_right rfl hv83660) (agree_nil _)), ?_⟩
          refine WL.load_box rfl rfl rfl (h80957.ext hE1) Ty.agg29 ?_
          refine WL.nil (fun a_ ha => ?_)
          exact ⟨_, β, ha, (Ext.refl _), BExt.refl _ _, hbi.ext (Ext.refl _), rfl⟩
        · intro σ β w1 hE1 hbi hk
          have hz1 := hE1.size
          obtain ⟨_, hv83760, rfl⟩ := hk 12 (by kernel_rfl) _ _ rfl rfl
          obtain ⟨_, hv83761, rfl⟩ := hk 15 (by kernel_rfl) _ _ rfl rfl
          obtain ⟨_, hv83762, rfl⟩ := hk 16 (by kernel_rfl) _ _ rfl rfl
          refine ⟨[(48, .bool false), (51, .agg #[.int .u8 A.kind, .int .u64 A.set.a, .int .u64 A.set.b, .int .u64 A.set.c, .int .u64 A.set.d, .int .i64 A.least, .int .i64 A.most, .slice a4 A.subs.length cap4]), (52, .agg #[.int .u8 B.kind, .int .u64 B.set.a, .int .u64 B.set.b, .int .u64 B.set.c, .int .u64 B.set.d, .int .i64 B.least, .int .i64 B.most, .slice a7 B.subs.length cap7])], (agree_cons (look_right rfl hv83760) (agree_cons (look_right rfl hv83761) (agree_cons (look_right rfl hv83762) (agree_nil _)))), ?_⟩
          refine WL.call rfl rfl rfl Ty.ent14 (Same_ok _ _ _ _ _ A B (h80954.ext hE1) (h80958.ext hE1)) ?_
          rintro _ w83764 ⟨rfl, hE83763⟩
          have hzhE83763 := hE83763.size
          refine ⟨_, rfl, ?_⟩
          refine WL.nil (fun a_ ha => ?_)
          exact ⟨_, β, ha, hE83763, BExt.refl _ _, hbi.ext hE83763, rfl⟩
        · intro σ β w1 hE1 hbi hk
          have hz1 := hE1.size
          obtain ⟨_, hv83860, rfl⟩ := hk 12 (by kernel_rfl) _ _ rfl rfl
          obtain ⟨_, hv83861, rfl⟩ := hk 14 (by kernel_rfl) _ _ rfl rfl
          obtain ⟨_, hv83862, rfl⟩ := hk 17 (by kernel_rfl) _ _ rfl rfl
          refine ⟨[(48, .bool false), (50, .bool ((Nd.compare A B : Int) == 0)), (53, .bool (Nd.light A && Nd.light B && Nd.same A B))], (agree_cons (look_right rfl hv83860) (agree_cons (look_right rfl hv83861) (agree_cons (look_right rfl hv83862) (agree_nil _)))), ?_⟩
          refine WL.neqB (b := false) rfl rfl Try.underlying4 rfl rfl (bne_eq_false_iff_eq.2 (Nd.o_eq hfA hfB hkA hkB)) ?_
          refine WL.nil (fun a_ ha => ?_)
          exact ⟨_, β, ha, (Ext.refl _), BExt.refl _ _, hbi.ext (Ext.refl _), rfl⟩
        · intro σ β w1 hE1 hbi hk
          have hz1 := hE1.size
          obtain ⟨_, hv83960, rfl⟩ := hk 12 (by kernel_rfl) _ _ rfl rfl
          obtain ⟨_, hv83961, rfl⟩ := hk 18 (by kernel_rfl) _ _ rfl rfl
          refine ⟨[(48, .bool false), (54, .bool false)], (agree_cons (look_right rfl hv83960) (agree_cons (look_right rfl hv83961) (agree_nil _))), ?_⟩
          refine WL.pick_f rfl rfl rfl rfl ?_
          refine WL.nil (fun a_ ha => ?_)
          exact ⟨_, β, ha, (Ext.refl _), BExt.refl _ _, hbi.ext (Ext.refl _), rfl⟩
        · intro σ β w1 hE1 hbi hk
          have hz1 := hE1.size
          obtain ⟨_, hv84060, rfl⟩ := hk 19 (by kernel_rfl) _ _ rfl rfl
          refine ⟨[(55, .bool false)], (agree_cons (look_right rfl hv84060) (agree_nil _)), ?_⟩
          refine WL.move rfl rfl rfl ?_
          refine WL.nil (fun a_ ha => ?_)
          exact ⟨_, β, ha, (Ext.refl _), BExt.refl _ _, hbi.ext (Ext.refl _), rfl⟩
        · intro σ β w1 hE1 hbi hk
          have hz1 := hE1.size
          obtain ⟨_, hv84160, rfl⟩ := hk 20 (by kernel_rfl) _ _ rfl rfl
          refine ⟨[(56, .bool false)], (agree_cons (look_right rfl hv84160) (agree_nil _)), ?_⟩
          refine WL.move rfl rfl rfl ?_
          refine WL.nil (fun a_ ha => ?_)
          exact ⟨_, β, ha, (Ext.refl _), BExt.refl _ _, hbi.ext (Ext.refl _), rfl⟩
        · intro σ β w1 hE1 hbi hk
          have hz1 := hE1.size
          obtain ⟨_, hv84260, rfl⟩ := hk 20 (by kernel_rfl) _ _ rfl rfl
          obtain ⟨_, hv84261, rfl⟩ := hk 21 (by kernel_rfl) _ _ rfl rfl
          refine ⟨[(56, .bool false), (57, .int .i64 (Nd.compare A B))], (agree_cons (look_right rfl hv84260) (agree_cons (look_right rfl hv84261) (agree_nil _))), ?_⟩
          refine WL.leq (b := true) rfl rfl rfl rfl hab ?_
          refine WL.nil (fun a_ ha => ?_)
          exact ⟨_, β, ha, (Ext.refl _), BExt.refl _ _, hbi.ext (Ext.refl _), rfl⟩
        · intro σ β w1 hE1 hbi hk
          have hz1 := hE1.size
          obtain ⟨_, hv84360, rfl⟩ := hk 20 (by kernel_rfl) _ _ rfl rfl
          obtain ⟨_, hv84361, rfl⟩ := hk 22 (by kernel_rfl) _ _ rfl rfl
          refine ⟨[(56, .bool false), (58, .bool true)], (agree_cons (look_right rfl hv84360) (agree_cons (look_right rfl hv84361) (agree_nil _))), ?_⟩
          refine WL.move rfl rfl rfl ?_
          refine WL.nil (fun a_ ha => ?_)
          exact ⟨_, β, ha, (Ext.refl _), BExt.refl _ _, hbi.ext (Ext.refl _), rfl⟩
        · intro σ β w1 hE1 hbi hk
          have hz1 := hE1.size
          obtain ⟨_, hv84460, rfl⟩ := hk 23 (by kernel_rfl) _ _ rfl rfl
          refine ⟨[(59, .bool true)], (agree_cons (look_right rfl hv84460) (agree_nil _)), ?_⟩
          refine WL.move rfl rfl rfl ?_
          refine WL.nil (fun a_ ha => ?_)
          exact ⟨_, β, ha, (Ext.refl _), BExt.refl _ _, hbi.ext (Ext.refl _), rfl⟩
        · intro σ β w1 hE1 hbi hk
          have hz1 := hE1.size
          obtain ⟨_, hv84560, rfl⟩ := hk 23 (by kernel_rfl) _ _ rfl rfl
          obtain ⟨_, hv84561, rfl⟩ := hk 24 (by kernel_rfl) _ _ rfl rfl
          refine ⟨[(59, .bool true), (60, .int .i64 (Nd.compare B C))], (agree_cons (look_right rfl hv84560) (agree_cons (look_right rfl hv84561) (agree_nil _))), ?_⟩
          refine WL.leq (b := true) rfl rfl rfl rfl hbc ?_
          refine WL.nil (fun a_ ha => ?_)
          exact ⟨_, β, ha, (Ext.refl _), BExt.refl _ _, hbi.ext (Ext.refl _), rfl⟩
        · intro σ β w1 hE1 hbi hk
          have hz1 := hE1.size
          obtain ⟨_, hv84660, rfl⟩ := hk 20 (by kernel_rfl) _ _ rfl rfl
          obtain ⟨_, hv84661, rfl⟩ := hk 23 (by kernel_rfl) _ _ rfl rfl
          obtain ⟨_, hv84662, rfl⟩ := hk 25 (by kernel_rfl) _ _ rfl rfl
          refine ⟨[(56, .bool false), (59, .bool true), (61, .bool true)], (agree_cons (look_right rfl hv84660) (agree_cons (look_right rfl hv84661) (agree_cons (look_right rfl hv84662) (agree_nil _)))), ?_⟩
          refine WL.pick_t rfl rfl rfl rfl ?_
          refine WL.nil (fun a_ ha => ?_)
          exact ⟨_, β, ha, (Ext.refl _), BExt.refl _ _, hbi.ext (Ext.refl _), rfl⟩
        · intro σ β w1 hE1 hbi hk
          have hz1 := hE1.size
          obtain ⟨_, hv84760, rfl⟩ := hk 20 (by kernel_rfl) _ _ rfl rfl
          obtain ⟨_, hv84761, rfl⟩ := hk 26 (by kernel_rfl) _ _ rfl rfl
          refine ⟨[(56, .bool false), (62, .bool true)], (agree_cons (look_right rfl hv84760) (agree_cons (look_right rfl hv84761) (agree_nil _))), ?_⟩
          refine WL.move rfl rfl rfl ?_
          refine WL.nil (fun a_ ha => ?_)
          exact ⟨_, β, ha, (Ext.refl _), BExt.refl _ _, hbi.ext (Ext.refl _), rfl⟩
        · intro σ β w1 hE1 hbi hk
          have hz1 := hE1.size
          obtain ⟨_, hv84860, rfl⟩ := hk 27 (by kernel_rfl) _ _ rfl rfl
          refine ⟨[(63, .bool true)], (agree_cons (look_right rfl hv84860) (agree_nil _)), ?_⟩
          refine WL.move rfl rfl rfl ?_
          refine WL.nil (fun a_ ha => ?_)
          exact ⟨_, β, ha, (Ext.refl _), BExt.refl _ _, hbi.ext (Ext.refl _), rfl⟩
        · intro σ β w1 hE1 hbi hk
          have hz1 := hE1.size
          obtain ⟨_, hv84960, rfl⟩ := hk 27 (by kernel_rfl) _ _ rfl rfl
          obtain ⟨_, hv84961, rfl⟩ := hk 28 (by kernel_rfl) _ _ rfl rfl
          refine ⟨[(63, .bool true), (64, .int .i64 (Nd.compare A C))], (agree_cons (look_right rfl hv84960) (agree_cons (look_right rfl hv84961) (agree_nil _))), ?_⟩
          refine WL.gtr (b := false) rfl rfl rfl rfl (decide_eq_false (by have := Nd.o_trans hfA hfB hfC hkA hkB hkC (of_decide_eq_true hab) (of_decide_eq_true hbc); omega)) ?_
          refine WL.nil (fun a_ ha => ?_)
          exact ⟨_, β, ha, (Ext.refl _), BExt.refl _ _, hbi.ext (Ext.refl _), rfl⟩
        · intro σ β w1 hE1 hbi hk
          have hz1 := hE1.size
          obtain ⟨_, hv85060, rfl⟩ := hk 20 (by kernel_rfl) _ _ rfl rfl
          obtain ⟨_, hv85061, rfl⟩ := hk 27 (by kernel_rfl) _ _ rfl rfl
          obtain ⟨_, hv85062, rfl⟩ := hk 29 (by kernel_rfl) _ _ rfl rfl
          refine ⟨[(56, .bool false), (63, .bool true), (65, .bool false)], (agree_cons (look_right rfl hv85060) (agree_cons (look_right rfl hv85061) (agree_cons (look_right rfl hv85062) (agree_nil _)))), ?_⟩
          refine WL.pick_t rfl rfl rfl rfl ?_
          refine WL.nil (fun a_ ha => ?_)
          exact ⟨_, β, ha, (Ext.refl _), BExt.refl _ _, hbi.ext (Ext.refl _), rfl⟩
        · intro σ β w1 hE1 hbi hk
          have hz1 := hE1.size
          obtain ⟨_, hv85160, rfl⟩ := hk 20 (by kernel_rfl) _ _ rfl rfl
          obtain ⟨_, hv85161, rfl⟩ := hk 30 (by kernel_rfl) _ _ rfl rfl
          refine ⟨[(56, .bool false), (66, .bool false)], (agree_cons (look_right rfl hv85160) (agree_cons (look_right rfl hv85161) (agree_nil _))), ?_⟩
          refine WL.pick_f rfl rfl rfl rfl ?_
          refine WL.nil (fun a_ ha => ?_)
          exact ⟨_, β, ha, (Ext.refl _), BExt.refl _ _, hbi.ext (Ext.refl _), rfl⟩
        · intro σ β w1 hE1 hbi hk
          have hz1 := hE1.size
          obtain ⟨_, hv85260, rfl⟩ := hk 31 (by kernel_rfl) _ _ rfl rfl
          refine ⟨[(67, .bool false)], (agree_cons (look_right rfl hv85260) (agree_nil _)), ?_⟩
          refine WL.move rfl rfl rfl ?_
          refine WL.nil (fun a_ ha => ?_)
          exact ⟨_, β, ha, (Ext.refl _), BExt.refl _ _, hbi.ext (Ext.refl _), rfl⟩
        · intro σ β w1 hE1 hbi hk
          have hz1 := hE1.size
          obtain ⟨_, hv85360, rfl⟩ := hk 32 (by kernel_rfl) _ _ rfl rfl
          refine ⟨[(68, .bool false)], (agree_cons (look_right rfl hv85360) (agree_nil _)), ?_⟩
          refine WL.load_box rfl rfl rfl (h80956.ext hE1) Ty.agg29 ?_
          refine WL.nil (fun a_ ha => ?_)
          exact ⟨_, β, ha, (Ext.refl _), BExt.refl _ _, hbi.ext (Ext.refl _), rfl⟩
        · intro σ β w1 hE1 hbi hk
          have hz1 := hE1.size
          obtain ⟨_, hv85460, rfl⟩ := hk 32 (by kernel_rfl) _ _ rfl rfl
          refine ⟨[(68, .bool false)], (agree_cons (look_right rfl hv85460) (agree_nil _)), ?_⟩
          refine WL.load_box rfl rfl rfl (h80957.ext hE1) Ty.agg29 ?_
          refine WL.nil (fun a_ ha => ?_)
          exact ⟨_, β, ha, (Ext.refl _), BExt.refl _ _, hbi.ext (Ext.refl _), rfl⟩
        · intro σ β w1 hE1 hbi hk
          have hz1 := hE1.size
          obtain ⟨_, hv85560, rfl⟩ := hk 32 (by kernel_rfl) _ _ rfl rfl
          obtain ⟨_, hv85561, rfl⟩ := hk 33 (by kernel_rfl) _ _ rfl rfl
          obtain ⟨_, hv85562, rfl⟩ := hk 34 (by kernel_rfl) _ _ rfl rfl
          refine ⟨[(68, .bool false), (69, .agg #[.int .u8 A.kind, .int .u64 A.set.a, .int .u64 A.set.b, .int .u64 A.set.c, .int .u64 A.set.d, .int .i64 A.least, .int .i64 A.most, .slice a4 A.subs.length cap4]), (70, .agg #[.int .u8 B.kind, .int .u64 B.set.a, .int .u64 B.set.b, .int .u64 B.set.c, .int .u64 B.set.d, .int .i64 B.least, .int .i64 B.most, .slice a7 B.subs.length cap7])], (agree_cons (look_right rfl hv85560) (agree_cons (look_right rfl hv85561) (agree_cons (look_right rfl hv85562) (agree_nil _)))), ?_⟩
          refine WL.call rfl rfl rfl Ty.ent14 (Same_ok _ _ _ _ _ A B (h80954.ext hE1) (h80958.ext hE1)) ?_
          rintro _ w85564 ⟨rfl, hE85563⟩
          have hzhE85563 := hE85563.size
          refine ⟨_, rfl, ?_⟩
          refine WL.nil (fun a_ ha => ?_)
          exact ⟨_, β, ha, hE85563, BExt.refl _ _, hbi.ext hE85563, rfl⟩
        · intro σ β w1 hE1 hbi hk
          have hz1 := hE1.size
          obtain ⟨_, hv85660, rfl⟩ := hk 32 (by kernel_rfl) _ _ rfl rfl
          refine ⟨[(68, .bool false)], (agree_cons (look_right rfl hv85660) (agree_nil _)), ?_⟩
          refine WL.load_box rfl rfl rfl (h80957.ext hE1) Ty.agg29 ?_
          refine WL.nil (fun a_ ha => ?_)
          exact ⟨_, β, ha, (Ext.refl _), BExt.refl _ _, hbi.ext (Ext.refl _), rfl⟩
        · intro σ β w1 hE1 hbi hk
          have hz1 := hE1.size
          obtain ⟨_, hv85760, rfl⟩ := hk 32 (by kernel_rfl) _ _ rfl rfl
          refine ⟨[(68, .bool false)], (agree_cons (look_right rfl hv85760) (agree_nil _)), ?_⟩
          refine WL.load_box rfl rfl rfl (h80956.ext hE1) Ty.agg29 ?_
          refine WL.nil (fun a_ ha => ?_)
          exact ⟨_, β, ha, (Ext.refl _), BExt.refl _ _, hbi.ext (Ext.refl _), rfl⟩
        · intro σ β w1 hE1 hbi hk
          have hz1 := hE1.size
          obtain ⟨_, hv85860, rfl⟩ := hk 32 (by kernel_rfl) _ _ rfl rfl
          obtain ⟨_, hv85861, rfl⟩ := hk 36 (by kernel_rfl) _ _ rfl rfl
          obtain ⟨_, hv85862, rfl⟩ := hk 37 (by kernel_rfl) _ _ rfl rfl
          refine ⟨[(68, .bool false), (72, .agg #[.int .u8 B.kind, .int .u64 B.set.a, .int .u64 B.set.b, .int .u64 B.set.c, .int .u64 B.set.d, .int .i64 B.least, .int .i64 B.most, .slice a7 B.subs.length cap7]), (73, .agg #[.int .u8 A.kind, .int .u64 A.set.a, .int .u64 A.set.b, .int .u64 A.set.c, .int .u64 A.set.d, .int .i64 A.least, .int .i64 A.most, .slice a4 A.subs.length cap4])], (agree_cons (look_right rfl hv85860) (agree_cons (look_right rfl hv85861) (agree_cons (look_right rfl hv85862) (agree_nil _)))), ?_⟩
          refine WL.call rfl rfl rfl Ty.ent14 (Same_ok _ _ _ _ _ B A (h80958.ext hE1) (h80954.ext hE1)) ?_
          rintro _ w85864 ⟨rfl, hE85863⟩
          have hzhE85863 := hE85863.size
          refine ⟨_, rfl, ?_⟩
          refine WL.nil (fun a_ ha => ?_)
          exact ⟨_, β, ha, hE85863, BExt.refl _ _, hbi.ext hE85863, rfl⟩
        · intro σ β w1 hE1 hbi hk
          have hz1 := hE1.size
          obtain ⟨_, hv85960, rfl⟩ := hk 32 (by kernel_rfl) _ _ rfl rfl
          obtain ⟨_, hv85961, rfl⟩ := hk 35 (by kernel_rfl) _ _ rfl rfl
          obtain ⟨_, hv85962, rfl⟩ := hk 38 (by kernel_rfl) _ _ rfl rfl
          refine ⟨[(68, .bool false), (71, .bool (Nd.light A && Nd.light B && Nd.same A B)), (74, .bool (Nd.light B && Nd.light A && Nd.same B A))], (agree_cons (look_right rfl hv85960) (agree_cons (look_right rfl hv85961) (agree_cons (look_right rfl hv85962) (agree_nil _)))), ?_⟩
          refine WL.neqB (b := false) rfl rfl Try.underlying4 rfl rfl (bne_eq_false_iff_eq.2 (Nd.o_same A B)) ?_
          refine WL.nil (fun a_ ha => ?_)
          exact ⟨_, β, ha, (Ext.refl _), BExt.refl _ _, hbi.ext (Ext.refl _), rfl⟩
        · intro σ β w1 hE1 hbi hk
          have hz1 := hE1.size
          obtain ⟨_, hv86060, rfl⟩ := hk 32 (by kernel_rfl) _ _ rfl rfl
          obtain ⟨_, hv86061, rfl⟩ := hk 39 (by kernel_rfl) _ _ rfl rfl
          refine ⟨[(68, .bool false), (75, .bool false)], (agree_cons (look_right rfl hv86060) (agree_cons (look_right rfl hv86061) (agree_nil _))), ?_⟩
          refine WL.pick_f rfl rfl rfl rfl ?_
          refine WL.nil (fun a_ ha => ?_)
          exact ⟨_, β, ha, (Ext.refl _), BExt.refl _ _, hbi.ext (Ext.refl _), rfl⟩
        · intro σ β w1 hE1 hbi hk
          have hz1 := hE1.size
          obtain ⟨_, hv86160, rfl⟩ := hk 40 (by kernel_rfl) _ _ rfl rfl
          refine ⟨[(76, .bool false)], (agree_cons (look_right rfl hv86160) (agree_nil _)), ?_⟩
          refine WL.move rfl rfl rfl ?_
          refine WL.nil (fun a_ ha => ?_)
          exact ⟨_, β, ha, (Ext.refl _), BExt.refl _ _, hbi.ext (Ext.refl _), rfl⟩
        · intro σ β w1 hE1 hbi hk
          have hz1 := hE1.size
          obtain ⟨_, hv86260, rfl⟩ := hk 41 (by kernel_rfl) _ _ rfl rfl
          refine ⟨[(77, .bool false)], (agree_cons (look_right rfl hv86260) (agree_nil _)), ?_⟩
          refine WL.load_box rfl rfl rfl (h80956.ext hE1) Ty.agg29 ?_
          refine WL.nil (fun a_ ha => ?_)
          exact ⟨_, β, ha, (Ext.refl _), BExt.refl _ _, hbi.ext (Ext.refl _), rfl⟩
        · intro σ β w1 hE1 hbi hk
          have hz1 := hE1.size
          obtain ⟨_, hv86360, rfl⟩ := hk 41 (by kernel_rfl) _ _ rfl rfl
          refine ⟨[(77, .bool false)], (agree_cons (look_right rfl hv86360) (agree_nil _)), ?_⟩
          refine WL.move rfl rfl rfl ?_
          refine WL.nil (fun a_ ha => ?_)
          exact ⟨_, β, ha, (Ext.refl _), BExt.refl _ _, hbi.ext (Ext.refl _), rfl⟩
        · intro σ β w1 hE1 hbi hk
          have hz1 := hE1.size
          obtain ⟨_, hv86460, rfl⟩ := hk 41 (by kernel_rfl) _ _ rfl rfl
          obtain ⟨_, hv86461, rfl⟩ := hk 43 (by kernel_rfl) _ _ rfl rfl
          refine ⟨[(77, .bool false), (79, .slice axs xs.length capxs)], (agree_cons (look_right rfl hv86460) (agree_cons (look_right rfl hv86461) (agree_nil _))), ?_⟩
          refine WL.call rfl rfl rfl Ty.ent9 (made_at hA _ _ _ _ (hxxs.ext ((((hB40.onto (hB36.onto (hB32.onto ((((((hE2.trans hE5).trans hE8).trans hE11).trans hE17).trans hE23).trans hE29) (by omega)) (by omega)) (by omega)).trans hE946).trans hE952).trans hE1))) ?_
          rintro _ w86464 ⟨l86462, rfl, hr86462, hE86463⟩
          have hzhE86463 := hE86463.size
          refine ⟨_, rfl, ?_⟩
          have hn86462 := hr86462.lt
          obtain ⟨sl86462, rfl, hts86462⟩ := hn86462.opn
          obtain ⟨a86462, cap86462, rfl, hlen86462, -⟩ := hts86462.get
          refine WL.nil (fun a_ ha => ?_)
          exact ⟨_, β, ha, hE86463, BExt.refl _ _, hbi.ext hE86463, ⟨_, rfl, (hr86462.off0 hbi (fun k hk => Nat.le_trans hE1.size hk))⟩⟩
        · intro σ β w1 hE1 hbi hk
          have hz1 := hE1.size
          obtain ⟨_, hv86560, rfl⟩ := hk 41 (by kernel_rfl) _ _ rfl rfl
          obtain ⟨_, hv86561, rfl⟩ := hk 42 (by kernel_rfl) _ _ rfl rfl
          obtain ⟨_, hv86562, l86562, rfl, hn86562⟩ := hk 44 (by kernel_rfl) _ _ rfl rfl
          have hn86562 := hn86562.lt
          obtain ⟨sl86562, rfl, hts86562⟩ := hn86562.opn
          obtain ⟨a86562, cap86562, rfl, hlen86562, -⟩ := hts86562.get
          refine ⟨[(77, .bool false), (78, .agg #[.int .u8 A.kind, .int .u64 A.set.a, .int .u64 A.set.b, .int .u64 A.set.c, .int .u64 A.set.d, .int .i64 A.least, .int .i64 A.most, .slice a4 A.subs.length cap4]), (80, .agg #[.int .u8 A.kind, .int .u64 A.set.a, .int .u64 A.set.b, .int .u64 A.set.c, .int .u64 A.set.d, .int .i64 A.least, .int .i64 A.most, .slice a86562 A.subs.length cap86562])], (agree_cons (look_right rfl hv86560) (agree_cons (look_right rfl hv86561) (agree_cons (look_right rfl hv86562) (agree_nil _)))), ?_⟩
          refine WL.call rfl rfl rfl Ty.ent14 (Same_ok _ _ _ _ _ A A (h80954.ext hE1) hn86562) ?_
          rintro _ w86564 ⟨he, hE86563⟩
          have hq : (Nd.light A && Nd.light A && Nd.same A A) = true := (Nd.Same_self hfA.light)
          rw [hq] at he
          subst he
          clear hq
          have hzhE86563 := hE86563.size
          refine ⟨_, rfl, ?_⟩
          refine WL.nil (fun a_ ha => ?_)
          exact ⟨_, β, ha, hE86563, BExt.refl _ _, hbi.ext hE86563, rfl⟩
        · intro σ β w1 hE1 hbi hk
          have hz1 := hE1.size
          obtain ⟨_, hv86660, rfl⟩ := hk 41 (by kernel_rfl) _ _ rfl rfl
          obtain ⟨_, hv86661, rfl⟩ := hk 45 (by kernel_rfl) _ _ rfl rfl
          refine ⟨[(77, .bool false), (81, .bool true)], (agree_cons (look_right rfl hv86660) (agree_cons (look_right rfl hv86661) (agree_nil _))), ?_⟩
          refine WL.not rfl rfl rfl ?_
          refine WL.nil (fun a_ ha => ?_)
          exact ⟨_, β, ha, (Ext.refl _), BExt.refl _ _, hbi.ext (Ext.refl _), rfl⟩
        · intro σ β w1 hE1 hbi hk
          have hz1 := hE1.size
          obtain ⟨_, hv86760, rfl⟩ := hk 41 (by kernel_rfl) _ _ rfl rfl
          obtain ⟨_, hv86761, rfl⟩ := hk 46 (by kernel_rfl) _ _ rfl rfl
          refine ⟨[(77, .bool false), (82, .bool false)], (agree_cons (look_right rfl hv86760) (agree_cons (look_right rfl hv86761) (agree_nil _))), ?_⟩
          refine WL.pick_f rfl rfl rfl rfl ?_
          refine WL.nil (fun a_ ha => ?_)
          exact ⟨_, β, ha, (Ext.refl _), BExt.refl _ _, hbi.ext (Ext.refl _), rfl⟩
        intro σ β w81859 hE81859 hbi81859 hk
        have hz81859 := hE81859.size
        have hbi := hbi81859
        obtain ⟨_, hv81860, rfl⟩ := hk 47 (by decide) _ _ rfl rfl
        refine WL.know [(83, .bool false)] (agree_cons (look_right rfl hv81860) (agree_nil _)) ?_
        refine WL.nil (fun a_ ha => ?_)
        exact ⟨ha.weaken (subReg_cons rfl (subReg_cons rfl (subReg_cons rfl (subReg_cons rfl (subReg_cons rfl (subReg_cons rfl (subReg_nil _))))))), hE81859⟩
  intro w955 hE954
  have hzhE954 := hE954.size
  refine WC.cond_f rfl ?_
  refine WC.skip'' ?_ (fun _ _ h => h)
  refine WC.seqk ?_
  refine WC.seqk ?_
  refine WC.region ?_
  refine WL.fieldAddr rfl rfl Ty.fld29_0 rfl ?_
  have h956 := (((h46.ext hE946).ext hE952).ext hE954)
  refine WL.load_fld rfl rfl Ty.flat5 rfl h956 rfl ?_
  refine WL.fieldAddr rfl rfl Ty.fld29_0 rfl ?_
  have h957 := ((((hB40.row hR35 (by omega)).ext hE946).ext hE952).ext hE954)
  refine WL.load_fld rfl rfl Ty.flat5 rfl h957 rfl ?_
  cases hc958 : ((A.kind : Int) != B.kind) with
  | false =>
    refine WL.neq rfl rfl rfl rfl hc958 ?_
    have hp958 := bne_eq_false_iff_eq.1 hc958
    refine WL.done' ?_ (fun _ _ h => h)
    refine WC.cond_f rfl ?_
    refine WC.skip'' ?_ (fun _ _ h => h)
    refine WC.seqk ?_
    have h959 := (((h43.ext hE946).ext hE952).ext hE954)
    have h960 := (((h44.ext hE946).ext hE952).ext hE954)
    have h961 := (((hR39.ext hE946).ext hE952).ext hE954)
    have h962 := (((h45.ext hE946).ext hE952).ext hE954)
    refine WC.weaken (r' := [(6, .bool false), (17, .bool false), (7, .pointer (some ⟨b13, 0, none⟩)), (8, .pointer (some ⟨b19, 0, none⟩)), (10, .int .i64 (Nd.compare A B)), (83, .bool false), (88, .bool false)]) (subReg_cons rfl (subReg_cons rfl (subReg_cons rfl (subReg_cons rfl (subReg_cons rfl (subReg_cons rfl (subReg_cons rfl (subReg_nil _)))))))) ?_
    refine WC.draw 6 [97, 98, 99, 100, 101, 14] [pnode (fun k => w955.heap.size ≤ k) (Nd.classS ([113])), pc (.agg #[.int .u8 A.kind, .int .u64 A.set.a, .int .u64 A.set.b, .int .u64 A.set.c, .int .u64 A.set.d, .int .i64 A.least, .int .i64 A.most, .slice a4 A.subs.length cap4]), pnode (fun k => w955.heap.size ≤ k) (Nd.classS ([114])), pnodes (fun _ => True) ([(Nd.classS ([113])), A, (Nd.classS ([114]))]), pnode (fun k => w955.heap.size ≤ k) (Nd.seq ([(Nd.classS ([113])), A, (Nd.classS ([114]))])), palloc 14 [.int .u8 0, .int .u64 0, .int .u64 0, .int .u64 0, .int .u64 0, .int .i64 0, .int .i64 0, .slice none 0 0] 29] (by kernel_rfl) (by kernel_rfl) ⟨KW_pnode _ _, KW_pc _, KW_pnode _ _, KW_pnodes _ _, KW_pnode _ _, KW_palloc _ _ _, trivial⟩ rfl rfl rfl (StepsOn.cons ?_ (StepsOn.cons ?_ (StepsOn.cons ?_ (StepsOn.cons ?_ (StepsOn.cons ?_ (StepsOn.cons ?_ (StepsOn.nil _))))))) ?_
    · intro σ β w1 hE1 hbi hk
      have hz1 := hE1.size
      refine ⟨[], (agree_nil _), ?_⟩
      refine WL.call rfl rfl rfl Ty.ent20 (class_ok _ ([113]) (by first | decide | exact Nd.lettersS_len _)) ?_
      rintro _ w2065 ⟨l2063, rfl, hr2063, hE2064⟩
      have hzhE2064 := hE2064.size
      refine ⟨_, rfl, ?_⟩
      have hn2063 := hr2063.lt
      obtain ⟨sl2063, rfl, hts2063⟩ := hn2063.opn
      obtain ⟨a2063, cap2063, rfl, hlen2063, -⟩ := hts2063.get
      refine WL.nil (fun a_ ha => ?_)
      exact ⟨_, β, ha, hE2064, BExt.refl _ _, hbi.ext hE2064, ⟨_, rfl, (hr2063.off0 hbi (fun k hk => Nat.le_trans hE1.size hk))⟩⟩
    · intro σ β w1 hE1 hbi hk
      have hz1 := hE1.size
      refine ⟨[], (agree_nil _), ?_⟩
      refine WL.load_box rfl rfl rfl (h956.ext hE1) Ty.agg29 ?_
      refine WL.nil (fun a_ ha => ?_)
      exact ⟨_, β, ha, (Ext.refl _), BExt.refl _ _, hbi.ext (Ext.refl _), rfl⟩
    · intro σ β w1 hE1 hbi hk
      have hz1 := hE1.size
      refine ⟨[], (agree_nil _), ?_⟩
      refine WL.call rfl rfl rfl Ty.ent20 (class_ok _ ([114]) (by first | decide | exact Nd.lettersS_len _)) ?_
      rintro _ w2265 ⟨l2263, rfl, hr2263, hE2264⟩
      have hzhE2264 := hE2264.size
      refine ⟨_, rfl, ?_⟩
      have hn2263 := hr2263.lt
      obtain ⟨sl2263, rfl, hts2263⟩ := hn2263.opn
      obtain ⟨a2263, cap2263, rfl, hlen2263, -⟩ := hts2263.get
      refine WL.nil (fun a_ ha => ?_)
      exact ⟨_, β, ha, hE2264, BExt.refl _ _, hbi.ext hE2264, ⟨_, rfl, (hr2263.off0 hbi (fun k hk => Nat.le_trans hE1.size hk))⟩⟩
    · intro σ β w1 hE1 hbi hk
      have hz1 := hE1.size
      obtain ⟨_, hv2363, l2363, rfl, hn2363⟩ := hk 0 (by kernel_rfl) _ _ rfl rfl
      have hn2363 := hn2363.lt
      obtain ⟨sl2363, rfl, hts2363⟩ := hn2363.opn
      obtain ⟨a2363, cap2363, rfl, hlen2363, -⟩ := hts2363.get
      obtain ⟨_, hv2364, rfl⟩ := hk 1 (by kernel_rfl) _ _ rfl rfl
      obtain ⟨_, hv2365, l2365, rfl, hn2365⟩ := hk 2 (by kernel_rfl) _ _ rfl rfl
      have hn2365 := hn2365.lt
      obtain ⟨sl2365, rfl, hts2365⟩ := hn2365.opn
      obtain ⟨a2365, cap2365, rfl, hlen2365, -⟩ := hts2365.get
      refine ⟨[(97, .agg #[.int .u8 (Nd.classS ([113])).kind, .int .u64 (Nd.classS ([113])).set.a, .int .u64 (Nd.classS ([113])).set.b, .int .u64 (Nd.classS ([113])).set.c, .int .u64 (Nd.classS ([113])).set.d, .int .i64 (Nd.classS ([113])).least, .int .i64 (Nd.classS ([113])).most, .slice a2363 (Nd.classS ([113])).subs.length cap2363]), (98, .agg #[.int .u8 A.kind, .int .u64 A.set.a, .int .u64 A.set.b, .int .u64 A.set.c, .int .u64 A.set.d, .int .i64 A.least, .int .i64 A.most, .slice a4 A.subs.length cap4]), (99, .agg #[.int .u8 (Nd.classS ([114])).kind, .int .u64 (Nd.classS ([114])).set.a, .int .u64 (Nd.classS ([114])).set.b, .int .u64 (Nd.classS ([114])).set.c, .int .u64 (Nd.classS ([114])).set.d, .int .i64 (Nd.classS ([114])).least, .int .i64 (Nd.classS ([114])).most, .slice a2365 (Nd.classS ([114])).subs.length cap2365])], (agree_cons (look_right rfl hv2363) (agree_cons (look_right rfl hv2364) (agree_cons (look_right rfl hv2365) (agree_nil _)))), ?_⟩
      refine WL.buildSlice (vs := [.agg #[.int .u8 (Nd.classS ([113])).kind, .int .u64 (Nd.classS ([113])).set.a, .int .u64 (Nd.classS ([113])).set.b, .int .u64 (Nd.classS ([113])).set.c, .int .u64 (Nd.classS ([113])).set.d, .int .i64 (Nd.classS ([113])).least, .int .i64 (Nd.classS ([113])).most, .slice a2363 (Nd.classS ([113])).subs.length cap2363], .agg #[.int .u8 A.kind, .int .u64 A.set.a, .int .u64 A.set.b, .int .u64 A.set.c, .int .u64 A.set.d, .int .i64 A.least, .int .i64 A.most, .slice a4 A.subs.length cap4], .agg #[.int .u8 (Nd.classS ([114])).kind, .int .u64 (Nd.classS ([114])).set.a, .int .u64 (Nd.classS ([114])).set.b, .int .u64 (Nd.classS ([114])).set.c, .int .u64 (Nd.classS ([114])).set.d, .int .i64 (Nd.classS ([114])).least, .int .i64 (Nd.classS ([114])).most, .slice a2365 (Nd.classS ([114])).subs.length cap2365]]) (cells := [.int .u8 (Nd.classS ([113])).kind, .int .u64 (Nd.classS ([113])).set.a, .int .u64 (Nd.classS ([113])).set.b, .int .u64 (Nd.classS ([113])).set.c, .int .u64 (Nd.classS ([113])).set.d, .int .i64 (Nd.classS ([113])).least, .int .i64 (Nd.classS ([113])).most, .slice a2363 (Nd.classS ([113])).subs.length cap2363, .int .u8 A.kind, .int .u64 A.set.a, .int .u64 A.set.b, .int .u64 A.set.c, .int .u64 A.set.d, .int .i64 A.least, .int .i64 A.most, .slice a4 A.subs.length cap4, .int .u8 (Nd.classS ([114])).kind, .int .u64 (Nd.classS ([114])).set.a, .int .u64 (Nd.classS ([114])).set.b, .int .u64 (Nd.classS ([114])).set.c, .int .u64 (Nd.classS ([114])).set.d, .int .i64 (Nd.classS ([114])).least, .int .i64 (Nd.classS ([114])).most, .slice a2365 (Nd.classS ([114])).subs.length cap2365]) rfl rfl Ty.slice27 Ty.zero29 rfl rfl rfl rfl rfl rfl (fun b2366 w2371 hb2367 hE2370 hs2368 hR2369 => ?_)
      have hts2366 := (NodesV.lit (n := 3) (ts := [(Nd.classS ([113])), A, (Nd.classS ([114]))]) hR2369 (RowsL.cons (hn2363.ext hE2370) (RowsL.cons ((h959.ext hE1).ext hE2370) (RowsL.cons (hn2365.ext hE2370) (RowsL.nil' _)))) rfl rfl (by decide)).lt
      refine WL.nil (fun a_ ha => ?_)
      exact ⟨_, β, ha, hE2370, BExt.refl _ _, hbi.ext hE2370, ⟨_, _, rfl, (hts2366.dom (by intro k h1; refine ⟨trivial, ?_, h1.2⟩; replace h1 := h1.1; intro x hxm; have hi := hbi.hi x hxm; have lo := hbi.lo x hxm; (try dsimp only at h1); (repeat' first | (guard_hyp h1 : _ ∨ _; refine Or.elim h1 (fun h1 => ?_) (fun h1 => ?_)) | (guard_hyp h1 : _ ∧ _; have hx := h1.2; replace h1 := h1.1)) <;> first | contradiction | omega | exact hx.1 x hxm))⟩⟩
    · intro σ β w1 hE1 hbi hk
      have hz1 := hE1.size
      obtain ⟨_, hv2463, a2463, cap2463, rfl, hts2463⟩ := hk 3 (by kernel_rfl) _ _ rfl rfl
      have hts2463 := hts2463.lt
      have hlen2463 := hts2463.len
      refine ⟨[(100, .slice a2463 (([(Nd.classS ([113])), A, (Nd.classS ([114]))]).length) cap2463)], (agree_cons (look_right rfl hv2463) (agree_nil _)), ?_⟩
      refine WL.call rfl rfl rfl Ty.ent10 (seq_ok _ _ _ _ ([(Nd.classS ([113])), A, (Nd.classS ([114]))]) hts2463 (Nat.le_of_ble_eq_true rfl)) ?_
      rintro _ w2466 ⟨l2464, rfl, hr2464, hE2465⟩
      have hzhE2465 := hE2465.size
      refine ⟨_, rfl, ?_⟩
      have hn2464 := hr2464.lt
      obtain ⟨sl2464, rfl, hts2464⟩ := hn2464.opn
      obtain ⟨a2464, cap2464, rfl, hlen2464, -⟩ := hts2464.get
      refine WL.nil (fun a_ ha => ?_)
      exact ⟨_, β, ha, hE2465, BExt.refl _ _, hbi.ext hE2465, ⟨_, rfl, (hr2464.off0 hbi (fun k hk => Nat.le_trans hE1.size hk))⟩⟩
    · intro σ β w1 hE1 hbi hk
      have hz1 := hE1.size
      refine ⟨[], (agree_nil _), ?_⟩
      refine WL.alloc rfl rfl Ty.zero29 rfl (fun b2563 w2568 hb2564 hE2567 hs2565 hR2566 => ?_)
      refine WL.nil (fun a_ ha => ?_)
      exact ⟨_, (14, b2563) :: β, ha, hE2567, BExt.cons (Nat.le_of_eq hb2564.symm), hbi.cons hE2567 hE1.size (Nat.le_of_eq hb2564.symm) hR2566.lt, b2563, rfl, hR2566, .head _⟩
    intro σ β w1862 hE1862 hbi1862 hk
    have hz1862 := hE1862.size
    have hbi := hbi1862
    obtain ⟨_, hv1863, b1863, rfl, hR1863, hm1863⟩ := hk 5 (by decide) _ _ rfl rfl
    have hlo1863 := hbi.lo _ hm1863
    have hhi1863 := hbi.hi _ hm1863
    obtain ⟨_, hv1864, l1864, rfl, hn1864⟩ := hk 4 (by decide) _ _ rfl rfl
    have hn1864 := hn1864.dom (D' := fun k => ((w955.heap.size ≤ k) ∧ b1863 ≠ k) ∧ k < w1862.heap.size) (fun k h => ⟨⟨h.1, h.2.1 _ hm1863⟩, h.2.2⟩)
    obtain ⟨sl1864, rfl, hts1864⟩ := hn1864.opn
    obtain ⟨a1864, cap1864, rfl, hlen1864, -⟩ := hts1864.get
    refine WL.know [(14, .pointer (some ⟨b1863, 0, none⟩)), (101, .agg #[.int .u8 (Nd.seq ([(Nd.classS ([113])), A, (Nd.classS ([114]))])).kind, .int .u64 (Nd.seq ([(Nd.classS ([113])), A, (Nd.classS ([114]))])).set.a, .int .u64 (Nd.seq ([(Nd.classS ([113])), A, (Nd.classS ([114]))])).set.b, .int .u64 (Nd.seq ([(Nd.classS ([113])), A, (Nd.classS ([114]))])).set.c, .int .u64 (Nd.seq ([(Nd.classS ([113])), A, (Nd.classS ([114]))])).set.d, .int .i64 (Nd.seq ([(Nd.classS ([113])), A, (Nd.classS ([114]))])).least, .int .i64 (Nd.seq ([(Nd.classS ([113])), A, (Nd.classS ([114]))])).most, .slice a1864 (Nd.seq ([(Nd.classS ([113])), A, (Nd.classS ([114]))])).subs.length cap1864])] (agree_cons (look_right rfl hv1863) (agree_cons (look_right rfl hv1864) (agree_nil _))) ?_
    refine WL.store_box rfl rfl rfl hR1863 Ty.agg29 rfl rfl (fun w1867 hB1866 hR1865 => ?_)
    have hzhB1866 := hB1866.size
    refine WL.done' ?_ (fun _ _ h => h)
    refine WC.seqk ?_
    have h1868 := (hB1866.row (h956.ext hE1862) (by omega))
    have h1869 := ((h959.ext hE1862).but hB1866 (by intro h1; first | omega | ((try dsimp only at h1); (repeat' first | (guard_hyp h1 : _ ∨ _; refine Or.elim h1 (fun h1 => ?_) (fun h1 => ?_)) | (guard_hyp h1 : _ ∧ _; have hx := h1.2; replace h1 := h1.1)) <;> first | contradiction | omega)))
    have h1870 := (hB1866.row (h957.ext hE1862) (by omega))
    have h1871 := ((h960.ext hE1862).but hB1866 (by intro h1; first | omega | ((try dsimp only at h1); (repeat' first | (guard_hyp h1 : _ ∨ _; refine Or.elim h1 (fun h1 => ?_) (fun h1 => ?_)) | (guard_hyp h1 : _ ∧ _; have hx := h1.2; replace h1 := h1.1)) <;> first | contradiction | omega)))
    have h1872 := (hB1866.row (h961.ext hE1862) (by omega))
    have h1873 := ((h962.ext hE1862).but hB1866 (by intro h1; first | omega | ((try dsimp only at h1); (repeat' first | (guard_hyp h1 : _ ∨ _; refine Or.elim h1 (fun h1 => ?_) (fun h1 => ?_)) | (guard_hyp h1 : _ ∧ _; have hx := h1.2; replace h1 := h1.1)) <;> first | contradiction | omega)))
    refine WC.weaken (r' := [(6, .bool false), (17, .bool false), (7, .pointer (some ⟨b13, 0, none⟩)), (8, .pointer (some ⟨b19, 0, none⟩)), (10, .int .i64 (Nd.compare A B)), (83, .bool false), (88, .bool false), (14, .pointer (some ⟨b1863, 0, none⟩))]) (subReg_cons rfl (subReg_cons rfl (subReg_cons rfl (subReg_cons rfl (subReg_cons rfl (subReg_cons rfl (subReg_cons rfl (subReg_cons rfl (subReg_nil _))))))))) ?_
    refine WC.draw 5 [102, 103, 104, 105, 15] [pc (.agg #[.int .u8 (Nd.seq ([(Nd.classS ([113])), A, (Nd.classS ([114]))])).kind, .int .u64 (Nd.seq ([(Nd.classS ([113])), A, (Nd.classS ([114]))])).set.a, .int .u64 (Nd.seq ([(Nd.classS ([113])), A, (Nd.classS ([114]))])).set.b, .int .u64 (Nd.seq ([(Nd.classS ([113])), A, (Nd.classS ([114]))])).set.c, .int .u64 (Nd.seq ([(Nd.classS ([113])), A, (Nd.classS ([114]))])).set.d, .int .i64 (Nd.seq ([(Nd.classS ([113])), A, (Nd.classS ([114]))])).least, .int .i64 (Nd.seq ([(Nd.classS ([113])), A, (Nd.classS ([114]))])).most, .slice a1864 (Nd.seq ([(Nd.classS ([113])), A, (Nd.classS ([114]))])).subs.length cap1864]), pnode (fun k => w1867.heap.size ≤ k) (Nd.classS ([0])), pnodes (fun _ => True) ([(Nd.seq ([(Nd.classS ([113])), A, (Nd.classS ([114]))])), (Nd.classS ([0]))]), pnode (fun k => w1867.heap.size ≤ k) (Nd.seq ([(Nd.seq ([(Nd.classS ([113])), A, (Nd.classS ([114]))])), (Nd.classS ([0]))])), palloc 15 [.int .u8 0, .int .u64 0, .int .u64 0, .int .u64 0, .int .u64 0, .int .i64 0, .int .i64 0, .slice none 0 0] 29] (by kernel_rfl) (by kernel_rfl) ⟨KW_pc _, KW_pnode _ _, KW_pnodes _ _, KW_pnode _ _, KW_palloc _ _ _, trivial⟩ rfl rfl rfl (StepsOn.cons ?_ (StepsOn.cons ?_ (StepsOn.cons ?_ (StepsOn.cons ?_ (StepsOn.cons ?_ (StepsOn.nil _)))))) ?_
    · intro σ β w1 hE1 hbi hk
      have hz1 := hE1.size
      refine ⟨[], (agree_nil _), ?_⟩
      refine WL.load_box rfl rfl rfl (hR1865.ext hE1) Ty.agg29 ?_
      refine WL.nil (fun a_ ha => ?_)
      exact ⟨_, β, ha, (Ext.refl _), BExt.refl _ _, hbi.ext (Ext.refl _), rfl⟩
    · intro σ β w1 hE1 hbi hk
      have hz1 := hE1.size
      refine ⟨[], (agree_nil _), ?_⟩
      refine WL.call rfl rfl rfl Ty.ent20 (class_ok _ ([0]) (by first | decide | exact Nd.lettersS_len _)) ?_
      rintro _ w3076 ⟨l3074, rfl, hr3074, hE3075⟩
      have hzhE3075 := hE3075.size
      refine ⟨_, rfl, ?_⟩
      have hn3074 := hr3074.lt
      obtain ⟨sl3074, rfl, hts3074⟩ := hn3074.opn
      obtain ⟨a3074, cap3074, rfl, hlen3074, -⟩ := hts3074.get
      refine WL.nil (fun a_ ha => ?_)
      exact ⟨_, β, ha, hE3075, BExt.refl _ _, hbi.ext hE3075, ⟨_, rfl, (hr3074.off0 hbi (fun k hk => Nat.le_trans hE1.size hk))⟩⟩
    · intro σ β w1 hE1 hbi hk
      have hz1 := hE1.size
      obtain ⟨_, hv3174, rfl⟩ := hk 0 (by kernel_rfl) _ _ rfl rfl
      obtain ⟨_, hv3175, l3175, rfl, hn3175⟩ := hk 1 (by kernel_rfl) _ _ rfl rfl
      have hn3175 := hn3175.lt
      obtain ⟨sl3175, rfl, hts3175⟩ := hn3175.opn
      obtain ⟨a3175, cap3175, rfl, hlen3175, -⟩ := hts3175.get
      refine ⟨[(102, .agg #[.int .u8 (Nd.seq ([(Nd.classS ([113])), A, (Nd.classS ([114]))])).kind, .int .u64 (Nd.seq ([(Nd.classS ([113])), A, (Nd.classS ([114]))])).set.a, .int .u64 (Nd.seq ([(Nd.classS ([113])), A, (Nd.classS ([114]))])).set.b, .int .u64 (Nd.seq ([(Nd.classS ([113])), A, (Nd.classS ([114]))])).set.c, .int .u64 (Nd.seq ([(Nd.classS ([113])), A, (Nd.classS ([114]))])).set.d, .int .i64 (Nd.seq ([(Nd.classS ([113])), A, (Nd.classS ([114]))])).least, .int .i64 (Nd.seq ([(Nd.classS ([113])), A, (Nd.classS ([114]))])).most, .slice a1864 (Nd.seq ([(Nd.classS ([113])), A, (Nd.classS ([114]))])).subs.length cap1864]), (103, .agg #[.int .u8 (Nd.classS ([0])).kind, .int .u64 (Nd.classS ([0])).set.a, .int .u64 (Nd.classS ([0])).set.b, .int .u64 (Nd.classS ([0])).set.c, .int .u64 (Nd.classS ([0])).set.d, .int .i64 (Nd.classS ([0])).least, .int .i64 (Nd.classS ([0])).most, .slice a3175 (Nd.classS ([0])).subs.length cap3175])], (agree_cons (look_right rfl hv3174) (agree_cons (look_right rfl hv3175) (agree_nil _))), ?_⟩
      have h3176 := ((hn1864.but hB1866 (by intro h1; first | omega | ((try dsimp only at h1); (repeat' first | (guard_hyp h1 : _ ∨ _; refine Or.elim h1 (fun h1 => ?_) (fun h1 => ?_)) | (guard_hyp h1 : _ ∧ _; have hx := h1.2; replace h1 := h1.1)) <;> first | contradiction | omega))).ext hE1)
      refine WL.buildSlice (vs := [.agg #[.int .u8 (Nd.seq ([(Nd.classS ([113])), A, (Nd.classS ([114]))])).kind, .int .u64 (Nd.seq ([(Nd.classS ([113])), A, (Nd.classS ([114]))])).set.a, .int .u64 (Nd.seq ([(Nd.classS ([113])), A, (Nd.classS ([114]))])).set.b, .int .u64 (Nd.seq ([(Nd.classS ([113])), A, (Nd.classS ([114]))])).set.c, .int .u64 (Nd.seq ([(Nd.classS ([113])), A, (Nd.classS ([114]))])).set.d, .int .i64 (Nd.seq ([(Nd.classS ([113])), A, (Nd.classS ([114]))])).least, .int .i64 (Nd.seq ([(Nd.classS ([113])), A, (Nd.classS ([114]))])).most, .slice a1864 (Nd.seq ([(Nd.classS ([113])), A, (Nd.classS ([114]))])).subs.length cap1864], .agg #[.int .u8 (Nd.classS ([0])).kind, .int .u64 (Nd.classS ([0])).set.a, .int .u64 (Nd.classS ([0])).set.b, .int .u64 (Nd.classS ([0])).set.c, .int .u64 (Nd.classS ([0])).set.d, .int .i64 (Nd.classS ([0])).least, .int .i64 (Nd.classS ([0])).most, .slice a3175 (Nd.classS ([0])).subs.length cap3175]]) (cells := [.int .u8 (Nd.seq ([(Nd.classS ([113])), A, (Nd.classS ([114]))])).kind, .int .u64 (Nd.seq ([(Nd.classS ([113])), A, (Nd.classS ([114]))])).set.a, .int .u64 (Nd.seq ([(Nd.classS ([113])), A, (Nd.classS ([114]))])).set.b, .int .u64 (Nd.seq ([(Nd.classS ([113])), A, (Nd.classS ([114]))])).set.c, .int .u64 (Nd.seq ([(Nd.classS ([113])), A, (Nd.classS ([114]))])).set.d, .int .i64 (Nd.seq ([(Nd.classS ([113])), A, (Nd.classS ([114]))])).least, .int .i64 (Nd.seq ([(Nd.classS ([113])), A, (Nd.classS ([114]))])).most, .slice a1864 (Nd.seq ([(Nd.classS ([113])), A, (Nd.classS ([114]))])).subs.length cap1864, .int .u8 (Nd.classS ([0])).kind, .int .u64 (Nd.classS ([0])).set.a, .int .u64 (Nd.classS ([0])).set.b, .int .u64 (Nd.classS ([0])).set.c, .int .u64 (Nd.classS ([0])).set.d, .int .i64 (Nd.classS ([0])).least, .int .i64 (Nd.classS ([0])).most, .slice a3175 (Nd.classS ([0])).subs.length cap3175]) rfl rfl Ty.slice27 Ty.zero29 rfl rfl rfl rfl rfl rfl (fun b3177 w3182 hb3178 hE3181 hs3179 hR3180 => ?_)
      have hts3177 := (NodesV.lit (n := 2) (ts := [(Nd.seq ([(Nd.classS ([113])), A, (Nd.classS ([114]))])), (Nd.classS ([0]))]) hR3180 (RowsL.cons (h3176.ext hE3181) (RowsL.cons (hn3175.ext hE3181) (RowsL.nil' _))) rfl rfl (by decide)).lt
      refine WL.nil (fun a_ ha => ?_)
      exact ⟨_, β, ha, hE3181, BExt.refl _ _, hbi.ext hE3181, ⟨_, _, rfl, (hts3177.dom (by intro k h1; refine ⟨trivial, ?_, h1.2⟩; replace h1 := h1.1; intro x hxm; have hi := hbi.hi x hxm; have lo := hbi.lo x hxm; (try dsimp only at h1); (repeat' first | (guard_hyp h1 : _ ∨ _; refine Or.elim h1 (fun h1 => ?_) (fun h1 => ?_)) | (guard_hyp h1 : _ ∧ _; have hx := h1.2; replace h1 := h1.1)) <;> first | contradiction | omega | exact hx.1 x hxm))⟩⟩
    · intro σ β w1 hE1 hbi hk
      have hz1 := hE1.size
      obtain ⟨_, hv3274, a3274, cap3274, rfl, hts3274⟩ := hk 2 (by kernel_rfl) _ _ rfl rfl
      have hts3274 := hts3274.lt
      have hlen3274 := hts3274.len
      refine ⟨[(104, .slice a3274 (([(Nd.seq ([(Nd.classS ([113])), A, (Nd.classS ([114]))])), (Nd.classS ([0]))]).length) cap3274)], (agree_cons (look_right rfl hv3274) (agree_nil _)), ?_⟩
      refine WL.call rfl rfl rfl Ty.ent10 (seq_ok _ _ _ _ ([(Nd.seq ([(Nd.classS ([113])), A, (Nd.classS ([114]))])), (Nd.classS ([0]))]) hts3274 (Nat.le_of_ble_eq_true rfl)) ?_
      rintro _ w3277 ⟨l3275, rfl, hr3275, hE3276⟩
      have hzhE3276 := hE3276.size
      refine ⟨_, rfl, ?_⟩
      have hn3275 := hr3275.lt
      obtain ⟨sl3275, rfl, hts3275⟩ := hn3275.opn
      obtain ⟨a3275, cap3275, rfl, hlen3275, -⟩ := hts3275.get
      refine WL.nil (fun a_ ha => ?_)
      exact ⟨_, β, ha, hE3276, BExt.refl _ _, hbi.ext hE3276, ⟨_, rfl, (hr3275.off0 hbi (fun k hk => Nat.le_trans hE1.size hk))⟩⟩
    · intro σ β w1 hE1 hbi hk
      have hz1 := hE1.size
      refine ⟨[], (agree_nil _), ?_⟩
      refine WL.alloc rfl rfl Ty.zero29 rfl (fun b3374 w3379 hb3375 hE3378 hs3376 hR3377 => ?_)
      refine WL.nil (fun a_ ha => ?_)
      exact ⟨_, (15, b3374) :: β, ha, hE3378, BExt.cons (Nat.le_of_eq hb3375.symm), hbi.cons hE3378 hE1.size (Nat.le_of_eq hb3375.symm) hR3377.lt, b3374, rfl, hR3377, .head _⟩
    intro σ β w2773 hE2773 hbi2773 hk
    have hz2773 := hE2773.size
    have hbi := hbi2773
    obtain ⟨_, hv2774, b2774, rfl, hR2774, hm2774⟩ := hk 4 (by decide) _ _ rfl rfl
    have hlo2774 := hbi.lo _ hm2774
    have hhi2774 := hbi.hi _ hm2774
    obtain ⟨_, hv2775, l2775, rfl, hn2775⟩ := hk 3 (by decide) _ _ rfl rfl
    have hn2775 := hn2775.dom (D' := fun k => ((w1867.heap.size ≤ k) ∧ b2774 ≠ k) ∧ k < w2773.heap.size) (fun k h => ⟨⟨h.1, h.2.1 _ hm2774⟩, h.2.2⟩)
    obtain ⟨sl2775, rfl, hts2775⟩ := hn2775.opn
    obtain ⟨a2775, cap2775, rfl, hlen2775, -⟩ := hts2775.get
    refine WL.know [(15, .pointer (some ⟨b2774, 0, none⟩)), (105, .agg #[.int .u8 (Nd.seq ([(Nd.seq ([(Nd.classS ([113])), A, (Nd.classS ([114]))])), (Nd.classS ([0]))])).kind, .int .u64 (Nd.seq ([(Nd.seq ([(Nd.classS ([113])), A, (Nd.classS ([114]))])), (Nd.classS ([0]))])).set.a, .int .u64 (Nd.seq ([(Nd.seq ([(Nd.classS ([113])), A, (Nd.classS ([114]))])), (Nd.classS ([0]))])).set.b, .int .u64 (Nd.seq ([(Nd.seq ([(Nd.classS ([113])), A, (Nd.classS ([114]))])), (Nd.classS ([0]))])).set.c, .int .u64 (Nd.seq ([(Nd.seq ([(Nd.classS ([113])), A, (Nd.classS ([114]))])), (Nd.classS ([0]))])).set.d, .int .i64 (Nd.seq ([(Nd.seq ([(Nd.classS ([113])), A, (Nd.classS ([114]))])), (Nd.classS ([0]))])).least, .int .i64 (Nd.seq ([(Nd.seq ([(Nd.classS ([113])), A, (Nd.classS ([114]))])), (Nd.classS ([0]))])).most, .slice a2775 (Nd.seq ([(Nd.seq ([(Nd.classS ([113])), A, (Nd.classS ([114]))])), (Nd.classS ([0]))])).subs.length cap2775])] (agree_cons (look_right rfl hv2774) (agree_cons (look_right rfl hv2775) (agree_nil _))) ?_
    refine WL.store_box rfl rfl rfl hR2774 Ty.agg29 rfl rfl (fun w2778 hB2777 hR2776 => ?_)
    have hzhB2777 := hB2777.size
    refine WL.done' ?_ (fun _ _ h => h)
    refine WC.seqk ?_
    have h2779 := (hB2777.row (h1868.ext hE2773) (by omega))
    have h2780 := ((h1869.ext hE2773).but hB2777 (by intro h1; first | omega | ((try dsimp only at h1); (repeat' first | (guard_hyp h1 : _ ∨ _; refine Or.elim h1 (fun h1 => ?_) (fun h1 => ?_)) | (guard_hyp h1 : _ ∧ _; have hx := h1.2; replace h1 := h1.1)) <;> first | contradiction | omega)))
    have h2781 := (hB2777.row (h1870.ext hE2773) (by omega))
    have h2782 := ((h1871.ext hE2773).but hB2777 (by intro h1; first | omega | ((try dsimp only at h1); (repeat' first | (guard_hyp h1 : _ ∨ _; refine Or.elim h1 (fun h1 => ?_) (fun h1 => ?_)) | (guard_hyp h1 : _ ∧ _; have hx := h1.2; replace h1 := h1.1)) <;> first | contradiction | omega)))
    have h2783 := (hB2777.row (h1872.ext hE2773) (by omega))
    have h2784 := ((h1873.ext hE2773).but hB2777 (by intro h1; first | omega | ((try dsimp only at h1); (repeat' first | (guard_hyp h1 : _ ∨ _; refine Or.elim h1 (fun h1 => ?_) (fun h1 => ?_)) | (guard_hyp h1 : _ ∧ _; have hx := h1.2; replace h1 := h1.1)) <;> first | contradiction | omega)))
    have h2785 := (hB2777.row (hR1865.ext hE2773) (by omega))
    have h2786 := (((hn1864.but hB1866 (by intro h1; first | omega | ((try dsimp only at h1); (repeat' first | (guard_hyp h1 : _ ∨ _; refine Or.elim h1 (fun h1 => ?_) (fun h1 => ?_)) | (guard_hyp h1 : _ ∧ _; have hx := h1.2; replace h1 := h1.1)) <;> first | contradiction | omega))).ext hE2773).but hB2777 (by intro h1; first | omega | ((try dsimp only at h1); (repeat' first | (guard_hyp h1 : _ ∨ _; refine Or.elim h1 (fun h1 => ?_) (fun h1 => ?_)) | (guard_hyp h1 : _ ∧ _; have hx := h1.2; replace h1 := h1.1)) <;> first | contradiction | omega)))
    refine WC.weaken (r' := [(6, .bool false), (17, .bool false), (7, .pointer (some ⟨b13, 0, none⟩)), (8, .pointer (some ⟨b19, 0, none⟩)), (10, .int .i64 (Nd.compare A B)), (83, .bool false), (88, .bool false), (14, .pointer (some ⟨b1863, 0, none⟩)), (15, .pointer (some ⟨b2774, 0, none⟩))]) (subReg_cons rfl (subReg_cons rfl (subReg_cons rfl (subReg_cons rfl (subReg_cons rfl (subReg_cons rfl (subReg_cons rfl (subReg_cons rfl (subReg_cons rfl (subReg_nil _)))))))))) ?_
    refine WC.draw 21 [106, 107, 108, 109, 110, 111, 112, 113, 114, 115, 116, 117, 118, 119, 120, 121, 122, 123, 124, 125, 126] [pc (.agg #[.int .u8 (Nd.seq ([(Nd.classS ([113])), A, (Nd.classS ([114]))])).kind, .int .u64 (Nd.seq ([(Nd.classS ([113])), A, (Nd.classS ([114]))])).set.a, .int .u64 (Nd.seq ([(Nd.classS ([113])), A, (Nd.classS ([114]))])).set.b, .int .u64 (Nd.seq ([(Nd.classS ([113])), A, (Nd.classS ([114]))])).set.c, .int .u64 (Nd.seq ([(Nd.classS ([113])), A, (Nd.classS ([114]))])).set.d, .int .i64 (Nd.seq ([(Nd.classS ([113])), A, (Nd.classS ([114]))])).least, .int .i64 (Nd.seq ([(Nd.classS ([113])), A, (Nd.classS ([114]))])).most, .slice a1864 (Nd.seq ([(Nd.classS ([113])), A, (Nd.classS ([114]))])).subs.length cap1864]), pc (.agg #[.int .u8 (Nd.seq ([(Nd.seq ([(Nd.classS ([113])), A, (Nd.classS ([114]))])), (Nd.classS ([0]))])).kind, .int .u64 (Nd.seq ([(Nd.seq ([(Nd.classS ([113])), A, (Nd.classS ([114]))])), (Nd.classS ([0]))])).set.a, .int .u64 (Nd.seq ([(Nd.seq ([(Nd.classS ([113])), A, (Nd.classS ([114]))])), (Nd.classS ([0]))])).set.b, .int .u64 (Nd.seq ([(Nd.seq ([(Nd.classS ([113])), A, (Nd.classS ([114]))])), (Nd.classS ([0]))])).set.c, .int .u64 (Nd.seq ([(Nd.seq ([(Nd.classS ([113])), A, (Nd.classS ([114]))])), (Nd.classS ([0]))])).set.d, .int .i64 (Nd.seq ([(Nd.seq ([(Nd.classS ([113])), A, (Nd.classS ([114]))])), (Nd.classS ([0]))])).least, .int .i64 (Nd.seq ([(Nd.seq ([(Nd.classS ([113])), A, (Nd.classS ([114]))])), (Nd.classS ([0]))])).most, .slice a2775 (Nd.seq ([(Nd.seq ([(Nd.classS ([113])), A, (Nd.classS ([114]))])), (Nd.classS ([0]))])).subs.length cap2775]), pc (.int .i64 (Nd.compare (Nd.seq ([(Nd.classS ([113])), A, (Nd.classS ([114]))])) (Nd.seq ([(Nd.seq ([(Nd.classS ([113])), A, (Nd.classS ([114]))])), (Nd.classS ([0]))])))), pc (.bool true), pc (.bool true), pc (.agg #[.int .u8 A.kind, .int .u64 A.set.a, .int .u64 A.set.b, .int .u64 A.set.c, .int .u64 A.set.d, .int .i64 A.least, .int .i64 A.most, .slice a4 A.subs.length cap4]), pnode (fun k => w2778.heap.size ≤ k) (Nd.times A 0 5), pc (.agg #[.int .u8 A.kind, .int .u64 A.set.a, .int .u64 A.set.b, .int .u64 A.set.c, .int .u64 A.set.d, .int .i64 A.least, .int .i64 A.most, .slice a4 A.subs.length cap4]), pnode (fun k => w2778.heap.size ≤ k) (Nd.times A 0 (-1)), pc (.int .i64 (Nd.compare (Nd.times A 0 5) (Nd.times A 0 (-1)))), pc (.bool true), pc (.bool true), pc (.bool true), pc (.agg #[.int .u8 A.kind, .int .u64 A.set.a, .int .u64 A.set.b, .int .u64 A.set.c, .int .u64 A.set.d, .int .i64 A.least, .int .i64 A.most, .slice a4 A.subs.length cap4]), pnode (fun _ => True) (Nd.mk 6 Nd.zero 0 0 [A]), pc (.agg #[.int .u8 B.kind, .int .u64 B.set.a, .int .u64 B.set.b, .int .u64 B.set.c, .int .u64 B.set.d, .int .i64 B.least, .int .i64 B.most, .slice a7 B.subs.length cap7]), pnode (fun _ => True) (Nd.mk 6 Nd.zero 0 0 [B]), pc (.int .i64 (Nd.compare (Nd.mk 6 Nd.zero 0 0 [A]) (Nd.mk 6 Nd.zero 0 0 [B]))), pc (.int .i64 (Nd.compare A B)), pc (.bool true), pc (.bool true)] (by kernel_rfl) (by kernel_rfl) ⟨KW_pc _, KW_pc _, KW_pc _, KW_pc _, KW_pc _, KW_pc _, KW_pnode _ _, KW_pc _, KW_pnode _ _, KW_pc _, KW_pc _, KW_pc _, KW_pc _, KW_pc _, KW_pnode _ _, KW_pc _, KW_pnode _ _, KW_pc _, KW_pc _, KW_pc _, KW_pc _, trivial⟩ rfl rfl rfl (StepsOn.cons ?_ (StepsOn.cons ?_ (StepsOn.cons ?_ (StepsOn.cons ?_ (StepsOn.cons ?_ (StepsOn.cons ?_ (StepsOn.cons ?_ (StepsOn.cons ?_ (StepsOn.cons ?_ (StepsOn.cons ?_ (StepsOn.cons ?_ (StepsOn.cons ?_ (StepsOn.cons ?_ (StepsOn.cons ?_ (StepsOn.cons ?_ (StepsOn.cons ?_ (StepsOn.cons ?_ (StepsOn.cons ?_ (StepsOn.cons ?_ (StepsOn.cons ?_ (StepsOn.cons ?_ (StepsOn.nil _)))))))))))))))))))))) ?_
    · intro σ β w1 hE1 hbi hk
      have hz1 := hE1.size
      refine ⟨[], (agree_nil _), ?_⟩
      refine WL.load_box rfl rfl rfl (h2785.ext hE1) Ty.agg29 ?_
      refine WL.nil (fun a_ ha => ?_)
      exact ⟨_, β, ha, (Ext.refl _), BExt.refl _ _, hbi.ext (Ext.refl _), rfl⟩
    · intro σ β w1 hE1 hbi hk
      have hz1 := hE1.size
      refine ⟨[], (agree_nil _), ?_⟩
      refine WL.load_box rfl rfl rfl (hR2776.ext hE1) Ty.agg29 ?_
      refine WL.nil (fun a_ ha => ?_)
      exact ⟨_, β, ha, (Ext.refl _), BExt.refl _ _, hbi.ext (Ext.refl _), rfl⟩
    · intro σ β w1 hE1 hbi hk
      have hz1 := hE1.size
      obtain ⟨_, hv4087, rfl⟩ := hk 0 (by kernel_rfl) _ _ rfl rfl
      obtain ⟨_, hv4088, rfl⟩ := hk 1 (by kernel_rfl) _ _ rfl rfl
      refine ⟨[(106, .agg #[.int .u8 (Nd.seq ([(Nd.classS ([113])), A, (Nd.classS ([114]))])).kind, .int .u64 (Nd.seq ([(Nd.classS ([113])), A, (Nd.classS ([114]))])).set.a, .int .u64 (Nd.seq ([(Nd.classS ([113])), A, (Nd.classS ([114]))])).set.b, .int .u64 (Nd.seq ([(Nd.classS ([113])), A, (Nd.classS ([114]))])).set.c, .int .u64 (Nd.seq ([(Nd.classS ([113])), A, (Nd.classS ([114]))])).set.d, .int .i64 (Nd.seq ([(Nd.classS ([113])), A, (Nd.classS ([114]))])).least, .int .i64 (Nd.seq ([(Nd.classS ([113])), A, (Nd.classS ([114]))])).most, .slice a1864 (Nd.seq ([(Nd.classS ([113])), A, (Nd.classS ([114]))])).subs.length cap1864]), (107, .agg #[.int .u8 (Nd.seq ([(Nd.seq ([(Nd.classS ([113])), A, (Nd.classS ([114]))])), (Nd.classS ([0]))])).kind, .int .u64 (Nd.seq ([(Nd.seq ([(Nd.classS ([113])), A, (Nd.classS ([114]))])), (Nd.classS ([0]))])).set.a, .int .u64 (Nd.seq ([(Nd.seq ([(Nd.classS ([113])), A, (Nd.classS ([114]))])), (Nd.classS ([0]))])).set.b, .int .u64 (Nd.seq ([(Nd.seq ([(Nd.classS ([113])), A, (Nd.classS ([114]))])), (Nd.classS ([0]))])).set.c, .int .u64 (Nd.seq ([(Nd.seq ([(Nd.classS ([113])), A, (Nd.classS ([114]))])), (Nd.classS ([0]))])).set.d, .int .i64 (Nd.seq ([(Nd.seq ([(Nd.classS ([113])), A, (Nd.classS ([114]))])), (Nd.classS ([0]))])).least, .int .i64 (Nd.seq ([(Nd.seq ([(Nd.classS ([113])), A, (Nd.classS ([114]))])), (Nd.classS ([0]))])).most, .slice a2775 (Nd.seq ([(Nd.seq ([(Nd.classS ([113])), A, (Nd.classS ([114]))])), (Nd.classS ([0]))])).subs.length cap2775])], (agree_cons (look_right rfl hv4087) (agree_cons (look_right rfl hv4088) (agree_nil _))), ?_⟩
      have h4089 := ((hn2775.but hB2777 (by intro h1; first | omega | ((try dsimp only at h1); (repeat' first | (guard_hyp h1 : _ ∨ _; refine Or.elim h1 (fun h1 => ?_) (fun h1 => ?_)) | (guard_hyp h1 : _ ∧ _; have hx := h1.2; replace h1 := h1.1)) <;> first | contradiction | omega))).ext hE1)
      refine WL.call rfl rfl rfl Ty.ent30 (Compare_ok _ _ _ _ _ (Nd.seq ([(Nd.classS ([113])), A, (Nd.classS ([114]))])) (Nd.seq ([(Nd.seq ([(Nd.classS ([113])), A, (Nd.classS ([114]))])), (Nd.classS ([0]))])) (h2786.ext hE1) h4089 (Nd.sok_seqO hmA hkA) (Nd.sok_moreO hmA hkA)) ?_
      rintro _ w4091 ⟨rfl, hE4090⟩
      have hzhE4090 := hE4090.size
      refine ⟨_, rfl, ?_⟩
      refine WL.nil (fun a_ ha => ?_)
      exact ⟨_, β, ha, hE4090, BExt.refl _ _, hbi.ext hE4090, rfl⟩
    · intro σ β w1 hE1 hbi hk
      have hz1 := hE1.size
      obtain ⟨_, hv4187, rfl⟩ := hk 2 (by kernel_rfl) _ _ rfl rfl
      refine ⟨[(108, .int .i64 (Nd.compare (Nd.seq ([(Nd.classS ([113])), A, (Nd.classS ([114]))])) (Nd.seq ([(Nd.seq ([(Nd.classS ([113])), A, (Nd.classS ([114]))])), (Nd.classS ([0]))]))))], (agree_cons (look_right rfl hv4187) (agree_nil _)), ?_⟩
      refine WL.eql (b := true) rfl rfl rfl rfl (beq_iff_eq.2 (Nd.o_more hmA hkA)) ?_
      refine WL.nil (fun a_ ha => ?_)
      exact ⟨_, β, ha, (Ext.refl _), BExt.refl _ _, hbi.ext (Ext.refl _), rfl⟩
    · intro σ β w1 hE1 hbi hk
      have hz1 := hE1.size
      obtain ⟨_, hv4287, rfl⟩ := hk 3 (by kernel_rfl) _ _ rfl rfl
      refine ⟨[(109, .bool true)], (agree_cons (look_right rfl hv4287) (agree_nil _)), ?_⟩
      refine WL.move rfl rfl rfl ?_
      refine WL.nil (fun a_ ha => ?_)
      exact ⟨_, β, ha, (Ext.refl _), BExt.refl _ _, hbi.ext (Ext.refl _), rfl⟩
    · intro σ β w1 hE1 hbi hk
      have hz1 := hE1.size
      obtain ⟨_, hv4387, rfl⟩ := hk 4 (by kernel_rfl) _ _ rfl rfl
      refine ⟨[(110, .bool true)], (agree_cons (look_right rfl hv4387) (agree_nil _)), ?_⟩
      refine WL.load_box rfl rfl rfl (h2779.ext hE1) Ty.agg29 ?_
      refine WL.nil (fun a_ ha => ?_)
      exact ⟨_, β, ha, (Ext.refl _), BExt.refl _ _, hbi.ext (Ext.refl _), rfl⟩
    · intro σ β w1 hE1 hbi hk
      have hz1 := hE1.size
      obtain ⟨_, hv4487, rfl⟩ := hk 4 (by kernel_rfl) _ _ rfl rfl
      obtain ⟨_, hv4488, rfl⟩ := hk 5 (by kernel_rfl) _ _ rfl rfl
      refine ⟨[(110, .bool true), (111, .agg #[.int .u8 A.kind, .int .u64 A.set.a, .int .u64 A.set.b, .int .u64 A.set.c, .int .u64 A.set.d, .int .i64 A.least, .int .i64 A.most, .slice a4 A.subs.length cap4])], (agree_cons (look_right rfl hv4487) (agree_cons (look_right rfl hv4488) (agree_nil _))), ?_⟩
      refine WL.call rfl rfl rfl Ty.ent19 (times_ok _ _ _ A 0 5 (h2780.ext hE1)) ?_
      rintro _ w4491 ⟨l4489, rfl, hr4489, hE4490⟩
      have hzhE4490 := hE4490.size
      refine ⟨_, rfl, ?_⟩
      have hn4489 := hr4489.lt
      obtain ⟨sl4489, rfl, hts4489⟩ := hn4489.opn
      obtain ⟨a4489, cap4489, rfl, hlen4489, -⟩ := hts4489.get
      refine WL.nil (fun a_ ha => ?_)
      exact ⟨_, β, ha, hE4490, BExt.refl _ _, hbi.ext hE4490, ⟨_, rfl, (hr4489.off0 hbi (fun k hk => Nat.le_trans hE1.size hk))⟩⟩
    · intro σ β w1 hE1 hbi hk
      have hz1 := hE1.size
      obtain ⟨_, hv4587, rfl⟩ := hk 4 (by kernel_rfl) _ _ rfl rfl
      refine ⟨[(110, .bool true)], (agree_cons (look_right rfl hv4587) (agree_nil _)), ?_⟩
      refine WL.load_box rfl rfl rfl (h2779.ext hE1) Ty.agg29 ?_
      refine WL.nil (fun a_ ha => ?_)
      exact ⟨_, β, ha, (Ext.refl _), BExt.refl _ _, hbi.ext (Ext.refl _), rfl⟩
    · intro σ β w1 hE1 hbi hk
      have hz1 := hE1.size
      obtain ⟨_, hv4687, rfl⟩ := hk 4 (by kernel_rfl) _ _ rfl rfl
      obtain ⟨_, hv4688, rfl⟩ := hk 7 (by kernel_rfl) _ _ rfl rfl
      refine ⟨[(110, .bool true), (113, .agg #[.int .u8 A.kind, .int .u64 A.set.a, .int .u64 A.set.b, .int .u64 A.set.c, .int .u64 A.set.d, .int .i64 A.least, .int .i64 A.most, .slice a4 A.subs.length cap4])], (agree_cons (look_right rfl hv4687) (agree_cons (look_right rfl hv4688) (agree_nil _))), ?_⟩
      refine WL.call rfl rfl rfl Ty.ent19 (times_ok _ _ _ A 0 (-1) (h2780.ext hE1)) ?_
      rintro _ w4691 ⟨l4689, rfl, hr4689, hE4690⟩
      have hzhE4690 := hE4690.size
      refine ⟨_, rfl, ?_⟩
      have hn4689 := hr4689.lt
      obtain ⟨sl4689, rfl, hts4689⟩ := hn4689.opn
      obtain ⟨a4689, cap4689, rfl, hlen4689, -⟩ := hts4689.get
      refine WL.nil (fun a_ ha => ?_)
      exact ⟨_, β, ha, hE4690, BExt.refl _ _, hbi.ext hE4690, ⟨_, rfl, (hr4689.off0 hbi (fun k hk => Nat.le_trans hE1.size hk))⟩⟩
    · intro σ β w1 hE1 hbi hk
      have hz1 := hE1.size
      obtain ⟨_, hv4787, rfl⟩ := hk 4 (by kernel_rfl) _ _ rfl rfl
      obtain ⟨_, hv4788, l4788, rfl, hn4788⟩ := hk 6 (by kernel_rfl) _ _ rfl rfl
      have hn4788 := hn4788.lt
      obtain ⟨sl4788, rfl, hts4788⟩ := hn4788.opn
      obtain ⟨a4788, cap4788, rfl, hlen4788, -⟩ := hts4788.get
      obtain ⟨_, hv4789, l4789, rfl, hn4789⟩ := hk 8 (by kernel_rfl) _ _ rfl rfl
      have hn4789 := hn4789.lt
      obtain ⟨sl4789, rfl, hts4789⟩ := hn4789.opn
      obtain ⟨a4789, cap4789, rfl, hlen4789, -⟩ := hts4789.get
      refine ⟨[(110, .bool true), (112, .agg #[.int .u8 (Nd.times A 0 5).kind, .int .u64 (Nd.times A 0 5).set.a, .int .u64 (Nd.times A 0 5).set.b, .int .u64 (Nd.times A 0 5).set.c, .int .u64 (Nd.times A 0 5).set.d, .int .i64 (Nd.times A 0 5).least, .int .i64 (Nd.times A 0 5).most, .slice a4788 (Nd.times A 0 5).subs.length cap4788]), (114, .agg #[.int .u8 (Nd.times A 0 (-1)).kind, .int .u64 (Nd.times A 0 (-1)).set.a, .int .u64 (Nd.times A 0 (-1)).set.b, .int .u64 (Nd.times A 0 (-1)).set.c, .int .u64 (Nd.times A 0 (-1)).set.d, .int .i64 (Nd.times A 0 (-1)).least, .int .i64 (Nd.times A 0 (-1)).most, .slice a4789 (Nd.times A 0 (-1)).subs.length cap4789])], (agree_cons (look_right rfl hv4787) (agree_cons (look_right rfl hv4788) (agree_cons (look_right rfl hv4789) (agree_nil _)))), ?_⟩
      refine WL.call rfl rfl rfl Ty.ent30 (Compare_ok _ _ _ _ _ (Nd.times A 0 5) (Nd.times A 0 (-1)) hn4788 hn4789 (Nd.sok_times hmA hkA (by omega) (by omega) (by omega)) (Nd.sok_times hmA hkA (by omega) (by omega) (by omega))) ?_
      rintro _ w4791 ⟨rfl, hE4790⟩
      have hzhE4790 := hE4790.size
      refine ⟨_, rfl, ?_⟩
      refine WL.nil (fun a_ ha => ?_)
      exact ⟨_, β, ha, hE4790, BExt.refl _ _, hbi.ext hE4790, rfl⟩
    · intro σ β w1 hE1 hbi hk
      have hz1 := hE1.size
      obtain ⟨_, hv4887, rfl⟩ := hk 4 (by kernel_rfl) _ _ rfl rfl
      obtain ⟨_, hv4888, rfl⟩ := hk 9 (by kernel_rfl) _ _ rfl rfl
      refine ⟨[(110, .bool true), (115, .int .i64 (Nd.compare (Nd.times A 0 5) (Nd.times A 0 (-1))))], (agree_cons (look_right rfl hv4887) (agree_cons (look_right rfl hv4888) (agree_nil _))), ?_⟩
      refine WL.leq (b := true) rfl rfl rfl rfl (decide_eq_true (Nd.o_times hmA hkA)) ?_
      refine WL.nil (fun a_ ha => ?_)
      exact ⟨_, β, ha, (Ext.refl _), BExt.refl _ _, hbi.ext (Ext.refl _), rfl⟩
    · intro σ β w1 hE1 hbi hk
      have hz1 := hE1.size
      obtain ⟨_, hv4987, rfl⟩ := hk 4 (by kernel_rfl) _ _ rfl rfl
      obtain ⟨_, hv4988, rfl⟩ := hk 10 (by kernel_rfl) _ _ rfl rfl
      refine ⟨[(110, .bool true), (116, .bool true)], (agree_cons (look_right rfl hv4987) (agree_cons (look_right rfl hv4988) (agree_nil _))), ?_⟩
      refine WL.pick_t rfl rfl rfl rfl ?_
      refine WL.nil (fun a_ ha => ?_)
      exact ⟨_, β, ha, (Ext.refl _), BExt.refl _ _, hbi.ext (Ext.refl _), rfl⟩
    · intro σ β w1 hE1 hbi hk
      have hz1 := hE1.size
      obtain ⟨_, hv5087, rfl⟩ := hk 11 (by kernel_rfl) _ _ rfl rfl
      refine ⟨[(117, .bool true)], (agree_cons (look_right rfl hv5087) (agree_nil _)), ?_⟩
      refine WL.move rfl rfl rfl ?_
      refine WL.nil (fun a_ ha => ?_)
      exact ⟨_, β, ha, (Ext.refl _), BExt.refl _ _, hbi.ext (Ext.refl _), rfl⟩
    · intro σ β w1 hE1 hbi hk
      have hz1 := hE1.size
      obtain ⟨_, hv5187, rfl⟩ := hk 12 (by kernel_rfl) _ _ rfl rfl
      refine ⟨[(118, .bool true)], (agree_cons (look_right rfl hv5187) (agree_nil _)), ?_⟩
      refine WL.load_box rfl rfl rfl (h2779.ext hE1) Ty.agg29 ?_
      refine WL.nil (fun a_ ha => ?_)
      exact ⟨_, β, ha, (Ext.refl _), BExt.refl _ _, hbi.ext (Ext.refl _), rfl⟩
    · intro σ β w1 hE1 hbi hk
      have hz1 := hE1.size
      obtain ⟨_, hv5287, rfl⟩ := hk 12 (by kernel_rfl) _ _ rfl rfl
      obtain ⟨_, hv5288, rfl⟩ := hk 13 (by kernel_rfl) _ _ rfl rfl
      refine ⟨[(118, .bool true), (119, .agg #[.int .u8 A.kind, .int .u64 A.set.a, .int .u64 A.set.b, .int .u64 A.set.c, .int .u64 A.set.d, .int .i64 A.least, .int .i64 A.most, .slice a4 A.subs.length cap4])], (agree_cons (look_right rfl hv5287) (agree_cons (look_right rfl hv5288) (agree_nil _))), ?_⟩
      refine WL.call rfl rfl rfl Ty.ent24 (group_ok _ _ _ A (h2780.ext hE1)) ?_
      rintro _ w5291 ⟨l5289, rfl, hr5289, hE5290⟩
      have hzhE5290 := hE5290.size
      refine ⟨_, rfl, ?_⟩
      have hn5289 := hr5289.lt
      obtain ⟨sl5289, rfl, hts5289⟩ := hn5289.opn
      obtain ⟨a5289, cap5289, rfl, hlen5289, -⟩ := hts5289.get
      refine WL.nil (fun a_ ha => ?_)
      exact ⟨_, β, ha, hE5290, BExt.refl _ _, hbi.ext hE5290, ⟨_, rfl, (hr5289.lt.dom (by intro k h1; refine ⟨trivial, ?_, h1.2⟩; replace h1 := h1.1; intro x hxm; have hi := hbi.hi x hxm; have lo := hbi.lo x hxm; (try dsimp only at h1); (repeat' first | (guard_hyp h1 : _ ∨ _; refine Or.elim h1 (fun h1 => ?_) (fun h1 => ?_)) | (guard_hyp h1 : _ ∧ _; have hx := h1.2; replace h1 := h1.1)) <;> first | contradiction | omega | exact hx.1 x hxm))⟩⟩
    · intro σ β w1 hE1 hbi hk
      have hz1 := hE1.size
      obtain ⟨_, hv5387, rfl⟩ := hk 12 (by kernel_rfl) _ _ rfl rfl
      refine ⟨[(118, .bool true)], (agree_cons (look_right rfl hv5387) (agree_nil _)), ?_⟩
      refine WL.load_box rfl rfl rfl (h2781.ext hE1) Ty.agg29 ?_
      refine WL.nil (fun a_ ha => ?_)
      exact ⟨_, β, ha, (Ext.refl _), BExt.refl _ _, hbi.ext (Ext.refl _), rfl⟩
    · intro σ β w1 hE1 hbi hk
      have hz1 := hE1.size
      obtain ⟨_, hv5487, rfl⟩ := hk 12 (by kernel_rfl) _ _ rfl rfl
      obtain ⟨_, hv5488, rfl⟩ := hk 15 (by kernel_rfl) _ _ rfl rfl
      refine ⟨[(118, .bool true), (121, .agg #[.int .u8 B.kind, .int .u64 B.set.a, .int .u64 B.set.b, .int .u64 B.set.c, .int .u64 B.set.d, .int .i64 B.least, .int .i64 B.most, .slice a7 B.subs.length cap7])], (agree_cons (look_right rfl hv5487) (agree_cons (look_right rfl hv5488) (agree_nil _))), ?_⟩
      refine WL.call rfl rfl rfl Ty.ent24 (group_ok _ _ _ B (h2782.ext hE1)) ?_
      rintro _ w5491 ⟨l5489, rfl, hr5489, hE5490⟩
      have hzhE5490 := hE5490.size
      refine ⟨_, rfl, ?_⟩
      have hn5489 := hr5489.lt
      obtain ⟨sl5489, rfl, hts5489⟩ := hn5489.opn
      obtain ⟨a5489, cap5489, rfl, hlen5489, -⟩ := hts5489.get
      refine WL.nil (fun a_ ha => ?_)
      exact ⟨_, β, ha, hE5490, BExt.refl _ _, hbi.ext hE5490, ⟨_, rfl, (hr5489.lt.dom (by intro k h1; refine ⟨trivial, ?_, h1.2⟩; replace h1 := h1.1; intro x hxm; have hi := hbi.hi x hxm; have lo := hbi.lo x hxm; (try dsimp only at h1); (repeat' first | (guard_hyp h1 : _ ∨ _; refine Or.elim h1 (fun h1 => ?_) (fun h1 => ?_)) | (guard_hyp h1 : _ ∧ _; have hx := h1.2; replace h1 := h1.1)) <;> first | contradiction | omega | exact hx.1 x hxm))⟩⟩
    · intro σ β w1 hE1 hbi hk
      have hz1 := hE1.size
      obtain ⟨_, hv5587, rfl⟩ := hk 12 (by kernel_rfl) _ _ rfl rfl
      obtain ⟨_, hv5588, l5588, rfl, hn5588⟩ := hk 14 (by kernel_rfl) _ _ rfl rfl
      have hn5588 := hn5588.lt
      obtain ⟨sl5588, rfl, hts5588⟩ := hn5588.opn
      obtain ⟨a5588, cap5588, rfl, hlen5588, -⟩ := hts5588.get
      obtain ⟨_, hv5589, l5589, rfl, hn5589⟩ := hk 16 (by kernel_rfl) _ _ rfl rfl
      have hn5589 := hn5589.lt
      obtain ⟨sl5589, rfl, hts5589⟩ := hn5589.opn
      obtain ⟨a5589, cap5589, rfl, hlen5589, -⟩ := hts5589.get
      refine ⟨[(118, .bool true), (120, .agg #[.int .u8 (Nd.mk 6 Nd.zero 0 0 [A]).kind, .int .u64 (Nd.mk 6 Nd.zero 0 0 [A]).set.a, .int .u64 (Nd.mk 6 Nd.zero 0 0 [A]).set.b, .int .u64 (Nd.mk 6 Nd.zero 0 0 [A]).set.c, .int .u64 (Nd.mk 6 Nd.zero 0 0 [A]).set.d, .int .i64 (Nd.mk 6 Nd.zero 0 0 [A]).least, .int .i64 (Nd.mk 6 Nd.zero 0 0 [A]).most, .slice a5588 (Nd.mk 6 Nd.zero 0 0 [A]).subs.length cap5588]), (122, .agg #[.int .u8 (Nd.mk 6 Nd.zero 0 0 [B]).kind, .int .u64 (Nd.mk 6 Nd.zero 0 0 [B]).set.a, .int .u64 (Nd.mk 6 Nd.zero 0 0 [B]).set.b, .int .u64 (Nd.mk 6 Nd.zero 0 0 [B]).set.c, .int .u64 (Nd.mk 6 Nd.zero 0 0 [B]).set.d, .int .i64 (Nd.mk 6 Nd.zero 0 0 [B]).least, .int .i64 (Nd.mk 6 Nd.zero 0 0 [B]).most, .slice a5589 (Nd.mk 6 Nd.zero 0 0 [B]).subs.length cap5589])], (agree_cons (look_right rfl hv5587) (agree_cons (look_right rfl hv5588) (agree_cons (look_right rfl hv5589) (agree_nil _)))), ?_⟩
      refine WL.call rfl rfl rfl Ty.ent30 (Compare_ok _ _ _ _ _ (Nd.mk 6 Nd.zero 0 0 [A]) (Nd.mk 6 Nd.zero 0 0 [B]) hn5588 hn5589 (Nd.sok_one hkA) (Nd.sok_one hkB)) ?_
      rintro _ w5591 ⟨rfl, hE5590⟩
      have hzhE5590 := hE5590.size
      refine ⟨_, rfl, ?_⟩
      refine WL.nil (fun a_ ha => ?_)
      exact ⟨_, β, ha, hE5590, BExt.refl _ _, hbi.ext hE5590, rfl⟩
    · intro σ β w1 hE1 hbi hk
      have hz1 := hE1.size
      obtain ⟨_, hv5687, rfl⟩ := hk 12 (by kernel_rfl) _ _ rfl rfl
      refine ⟨[(118, .bool true)], (agree_cons (look_right rfl hv5687) (agree_nil _)), ?_⟩
      refine WL.move rfl rfl rfl ?_
      refine WL.nil (fun a_ ha => ?_)
      exact ⟨_, β, ha, (Ext.refl _), BExt.refl _ _, hbi.ext (Ext.refl _), rfl⟩
    · intro σ β w1 hE1 hbi hk
      have hz1 := hE1.size
      obtain ⟨_, hv5787, rfl⟩ := hk 12 (by kernel_rfl) _ _ rfl rfl
      obtain ⟨_, hv5788, rfl⟩ := hk 17 (by kernel_rfl) _ _ rfl rfl
      obtain ⟨_, hv5789, rfl⟩ := hk 18 (by kernel_rfl) _ _ rfl rfl
      refine ⟨[(118, .bool true), (123, .int .i64 (Nd.compare (Nd.mk 6 Nd.zero 0 0 [A]) (Nd.mk 6 Nd.zero 0 0 [B]))), (124, .int .i64 (Nd.compare A B))], (agree_cons (look_right rfl hv5787) (agree_cons (look_right rfl hv5788) (agree_cons (look_right rfl hv5789) (agree_nil _)))), ?_⟩
      refine WL.eql (b := true) rfl rfl rfl rfl (beq_iff_eq.2 (Nd.o_group hmA hmB)) ?_
      refine WL.nil (fun a_ ha => ?_)
      exact ⟨_, β, ha, (Ext.refl _), BExt.refl _ _, hbi.ext (Ext.refl _), rfl⟩
    · intro σ β w1 hE1 hbi hk
      have hz1 := hE1.size
      obtain ⟨_, hv5887, rfl⟩ := hk 12 (by kernel_rfl) _ _ rfl rfl
      obtain ⟨_, hv5888, rfl⟩ := hk 19 (by kernel_rfl) _ _ rfl rfl
      refine ⟨[(118, .bool true), (125, .bool true)], (agree_cons (look_right rfl hv5887) (agree_cons (look_right rfl hv5888) (agree_nil _))), ?_⟩
      refine WL.pick_t rfl rfl rfl rfl ?_
      refine WL.nil (fun a_ ha => ?_)
      exact ⟨_, β, ha, (Ext.refl _), BExt.refl _ _, hbi.ext (Ext.refl _), rfl⟩
    intro σ β w3686 hE3686 hbi3686 hk
    have hz3686 := hE3686.size
    have hbi := hbi3686
    obtain ⟨_, hv3687, rfl⟩ := hk 20 (by decide) _ _ rfl rfl
    refine WL.know [(126, .bool true)] (agree_cons (look_right rfl hv3687) (agree_nil _)) ?_
    refine WL.assign rfl rfl rfl ?_
    refine WL.done' ?_ (fun _ _ h => h)
    refine WC.ret (fun a_ ha => ?_)
    exact bodyPost_tmp rfl ha rfl ⟨rfl, ((hB2777.onto ((hB1866.onto (((((hB40.onto (hB36.onto (hB32.onto ((((((hE2.trans hE5).trans hE8).trans hE11).trans hE17).trans hE23).trans hE29) (by omega)) (by omega)) (by omega)).trans hE946).trans hE952).trans hE954).trans hE1862) (by omega)).trans hE2773) (by omega)).trans hE3686)⟩
  | true =>
    refine WL.neq rfl rfl rfl rfl hc958 ?_
    have hp958 := bne_iff_ne.1 hc958
    refine WL.done' ?_ (fun _ _ h => h)
    refine WC.cond_t rfl ?_
    refine WC.seqk ?_
    refine WC.region ?_
    refine WL.move rfl rfl rfl ?_
    refine WL.lss rfl rfl rfl rfl rfl ?_
    refine WL.fieldAddr rfl rfl Ty.fld29_0 rfl ?_
    refine WL.load_fld rfl rfl Ty.flat5 rfl h956 rfl ?_
    refine WL.fieldAddr rfl rfl Ty.fld29_0 rfl ?_
    refine WL.load_fld rfl rfl Ty.flat5 rfl h957 rfl ?_
    refine WL.lss rfl rfl rfl rfl rfl ?_
    refine WL.eqlB (b := true) rfl rfl Try.underlying4 rfl rfl (Nd.o_kind hfA hfB hp958) ?_
    refine WL.assign rfl rfl rfl ?_
    refine WL.done' ?_ (fun _ _ h => h)
    refine WC.ret (fun a_ ha => ?_)
    refine ret_then ?_
    exact bodyPost_tmp rfl ha rfl ⟨rfl, ((((hB40.onto (hB36.onto (hB32.onto ((((((hE2.trans hE5).trans hE8).trans hE11).trans hE17).trans hE23).trans hE29) (by omega)) (by omega)) (by omega)).trans hE946).trans hE952).trans hE954)⟩

end Go.Proofs.Ytaggidjijekpbaa
