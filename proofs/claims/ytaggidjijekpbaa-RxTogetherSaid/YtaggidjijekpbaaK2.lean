/- Walks through the program's functions: each computes what the plain Lean function says. Printed by our own gen/r8.py. -/
import Derived.Test.YtaggidjijekpbaaJ
import Derived.Test.YtaggidjijekpbaaLawN
import Derived.KernelRfl
namespace Go.Proofs.Ytaggidjijekpbaa
open Go.Proofs Go.RowKit

set_option maxRecDepth 20000 in
set_option maxHeartbeats 4000000 in
theorem RxTogether_ok (w : World) (Dxs : Nat → Prop) (axs : Option Addr) (capxs : Nat) (xs : List (Int × Int × Int)) (hxxs : SmallV Dxs w (.slice axs xs.length capxs) xs) (Dys : Nat → Prop) (ays : Option Addr) (capys : Nat) (ys : List (Int × Int × Int)) (hxys : SmallV Dys w (.slice ays ys.length capys) ys) (Dzs : Nat → Prop) (azs : Option Addr) (capzs : Nat) (zs : List (Int × Int × Int)) (hxzs : SmallV Dzs w (.slice azs zs.length capzs) zs) :
    Calls Try.prog 3 #[.slice axs xs.length capxs, .slice ays ys.length capys, .slice azs zs.length capzs] w fun e w' => e = .returned (.bool true) ∧ Ext w w' := by
  have hBxs : Nd.Bytes xs := fun q hq => by have := hxxs.2 q hq; omega
  obtain ⟨A, hA⟩ : ∃ T, T = Nd.made xs := ⟨_, rfl⟩
  have hmA : Nd.MadeOk A := hA ▸ Nd.made_ok' hBxs
  have hfA := hmA.fine
  have hsA := hmA.sizes
  have hpA := hmA.posns
  have hgA := hmA.groups
  have hBys : Nd.Bytes ys := fun q hq => by have := hxys.2 q hq; omega
  obtain ⟨B, hB⟩ : ∃ T, T = Nd.made ys := ⟨_, rfl⟩
  have hmB : Nd.MadeOk B := hB ▸ Nd.made_ok' hBys
  have hfB := hmB.fine
  have hsB := hmB.sizes
  have hpB := hmB.posns
  have hgB := hmB.groups
  have hBzs : Nd.Bytes zs := fun q hq => by have := hxzs.2 q hq; omega
  obtain ⟨C, hC⟩ : ∃ T, T = Nd.made zs := ⟨_, rfl⟩
  have hmC : Nd.MadeOk C := hC ▸ Nd.made_ok' hBzs
  have hfC := hmC.fine
  have hsC := hmC.sizes
  have hpC := hmC.posns
  have hgC := hmC.groups
  have hqA := hmA.small
  have hqB := hmB.small
  have hqC := hmC.small
  have hS := Nd.seq3_fine hqA hqB hqC
  have hO := Nd.or3_fine hqA hqB hqC
  refine Calls.enter (args := [.slice axs xs.length capxs, .slice ays ys.length capys, .slice azs zs.length capzs]) Try.func3 rfl rfl rfl rfl ?_
  refine WC.seqk ?_
  refine WC.region ?_
  refine WL.assign rfl rfl rfl ?_
  refine WL.done' ?_ (fun _ _ h => h)
  refine WC.seqk ?_
  refine WC.seqk ?_
  refine WC.region ?_
  refine WL.call rfl rfl rfl Ty.ent8 (awake_ok _) ?_
  rintro _ w2 ⟨rfl, hE1⟩
  have hzhE1 := hE1.size
  refine ⟨_, rfl, ?_⟩
  refine WL.not rfl rfl rfl ?_
  refine WL.done' ?_ (fun _ _ h => h)
  refine WC.cond_f rfl ?_
  refine WC.skip'' ?_ (fun _ _ h => h)
  refine WC.seqk ?_
  refine WC.region ?_
  refine WL.move rfl rfl rfl ?_
  refine WL.call rfl rfl rfl Ty.ent9 (made_ok _ _ _ _ xs (hxxs.ext hE1)) ?_
  rintro _ w5 ⟨l3, rfl, hr3, hE4⟩
  have hzhE4 := hE4.size
  refine ⟨_, rfl, ?_⟩
  rw [← hA] at hr3
  have hn3 := hr3.lt
  obtain ⟨sl3, rfl, hts3⟩ := hn3.opn
  obtain ⟨a3, cap3, rfl, hlen3, -⟩ := hts3.get
  refine WL.move rfl rfl rfl ?_
  have h7 := ((hxys.ext hE1).ext hE4)
  refine WL.call rfl rfl rfl Ty.ent9 (made_ok _ _ _ _ ys h7) ?_
  rintro _ w9 ⟨l6, rfl, hr6, hE8⟩
  have hzhE8 := hE8.size
  refine ⟨_, rfl, ?_⟩
  rw [← hB] at hr6
  have hn6 := hr6.lt
  obtain ⟨sl6, rfl, hts6⟩ := hn6.opn
  obtain ⟨a6, cap6, rfl, hlen6, -⟩ := hts6.get
  refine WL.move rfl rfl rfl ?_
  have h11 := (((hxzs.ext hE1).ext hE4).ext hE8)
  refine WL.call rfl rfl rfl Ty.ent9 (made_ok _ _ _ _ zs h11) ?_
  rintro _ w13 ⟨l10, rfl, hr10, hE12⟩
  have hzhE12 := hE12.size
  refine ⟨_, rfl, ?_⟩
  rw [← hC] at hr10
  have hn10 := hr10.lt
  obtain ⟨sl10, rfl, hts10⟩ := hn10.opn
  obtain ⟨a10, cap10, rfl, hlen10, -⟩ := hts10.get
  refine WL.alloc rfl rfl Ty.zero29 rfl (fun b14 w19 hb15 hE18 hs16 hR17 => ?_)
  refine WL.alloc rfl rfl Ty.zero29 rfl (fun b20 w25 hb21 hE24 hs22 hR23 => ?_)
  refine WL.alloc rfl rfl Ty.zero29 rfl (fun b26 w31 hb27 hE30 hs28 hR29 => ?_)
  have h34 := ((hR17.ext hE24).ext hE30)
  refine WL.store_box rfl rfl rfl h34 Ty.agg29 rfl rfl (fun w35 hB33 hR32 => ?_)
  have hzhB33 := hB33.size
  have h38 := (hB33.row (hR23.ext hE30) (by omega))
  refine WL.store_box rfl rfl rfl h38 Ty.agg29 rfl rfl (fun w39 hB37 hR36 => ?_)
  have hzhB37 := hB37.size
  have h42 := (hB37.row (hB33.row hR29 (by omega)) (by omega))
  refine WL.store_box rfl rfl rfl h42 Ty.agg29 rfl rfl (fun w43 hB41 hR40 => ?_)
  have hzhB41 := hB41.size
  refine WL.done' ?_ (fun _ _ h => h)
  refine WC.seqk ?_
  refine WC.weaken (r' := [(6, .bool false), (18, .bool false), (7, .pointer (some ⟨b14, 0, none⟩)), (8, .pointer (some ⟨b20, 0, none⟩)), (9, .pointer (some ⟨b26, 0, none⟩))]) (subReg_cons rfl (subReg_cons rfl (subReg_cons rfl (subReg_cons rfl (subReg_cons rfl (subReg_nil _)))))) ?_
  refine WC.region ?_
  refine WL.build (l := [.int .u8 1, .int .u64 0, .int .u64 0, .int .u64 0, .int .u64 0, .int .i64 0, .int .i64 0, .slice none 0 0]) rfl rfl Ty.zero29 Ty.st29 ⟨⟨rfl, rfl⟩, (by kernel_rfl)⟩ ?_
  have hn44 : NodeL _ w43 [.int .u8 1, .int .u64 0, .int .u64 0, .int .u64 0, .int .u64 0, .int .i64 0, .int .i64 0, .slice none 0 0] (Nd.mk 1 Nd.zero 0 0 ([])) := NodeL.shut (k := 1) (s := Nd.zero) (mn := 0) (mx := 0) (sl := .slice none 0 0) (ts := []) (NodesV.nil (fun _ => False) _ none 0)
  have hn44 := hn44.lt
  refine WL.build0 (l := [.int .u8 0, .int .u64 0, .int .u64 0, .int .u64 0, .int .u64 0, .int .i64 0, .int .i64 0, .slice none 0 0]) rfl rfl Ty.zero29 Ty.agg29 rfl Ty.bz29 ?_
  have hn45 : NodeL _ w43 [.int .u8 0, .int .u64 0, .int .u64 0, .int .u64 0, .int .u64 0, .int .i64 0, .int .i64 0, .slice none 0 0] (Nd.mk 0 Nd.zero 0 0 ([])) := NodeL.shut (k := 0) (s := Nd.zero) (mn := 0) (mx := 0) (sl := .slice none 0 0) (ts := []) (NodesV.nil (fun _ => False) _ none 0)
  have hn45 := hn45.lt
  refine WL.alloc rfl rfl Ty.zero29 rfl (fun b46 w51 hb47 hE50 hs48 hR49 => ?_)
  refine WL.alloc rfl rfl Ty.zero29 rfl (fun b52 w57 hb53 hE56 hs54 hR55 => ?_)
  refine WL.store_box rfl rfl rfl (hR49.ext hE56) Ty.agg29 rfl rfl (fun w60 hB59 hR58 => ?_)
  have hzhB59 := hB59.size
  refine WL.store_box rfl rfl rfl (hB59.row hR55 (by omega)) Ty.agg29 rfl rfl (fun w63 hB62 hR61 => ?_)
  have hzhB62 := hB62.size
  refine WL.done' ?_ (fun _ _ h => h)
  refine WC.seqk ?_
  have h64 := ((((hn44.ext hE50).ext hE56).but hB59 (by intro h1; first | omega | ((try dsimp only at h1); (repeat' first | (guard_hyp h1 : _ ∨ _; refine Or.elim h1 (fun h1 => ?_) (fun h1 => ?_)) | (guard_hyp h1 : _ ∧ _; have hx := h1.2; replace h1 := h1.1)) <;> first | contradiction | omega))).but hB62 (by intro h1; first | omega | ((try dsimp only at h1); (repeat' first | (guard_hyp h1 : _ ∨ _; refine Or.elim h1 (fun h1 => ?_) (fun h1 => ?_)) | (guard_hyp h1 : _ ∧ _; have hx := h1.2; replace h1 := h1.1)) <;> first | contradiction | omega)))
  have h65 := ((((hn45.ext hE50).ext hE56).but hB59 (by intro h1; first | omega | ((try dsimp only at h1); (repeat' first | (guard_hyp h1 : _ ∨ _; refine Or.elim h1 (fun h1 => ?_) (fun h1 => ?_)) | (guard_hyp h1 : _ ∧ _; have hx := h1.2; replace h1 := h1.1)) <;> first | contradiction | omega))).but hB62 (by intro h1; first | omega | ((try dsimp only at h1); (repeat' first | (guard_hyp h1 : _ ∨ _; refine Or.elim h1 (fun h1 => ?_) (fun h1 => ?_)) | (guard_hyp h1 : _ ∧ _; have hx := h1.2; replace h1 := h1.1)) <;> first | contradiction | omega)))
  have h66 := (hB62.row (hB59.row (((hB41.row (hB37.row hR32 (by omega)) (by omega)).ext hE50).ext hE56) (by omega)) (by omega))
  have h67 := ((((((((((((hn3.ext hE8).ext hE12).ext hE18).ext hE24).ext hE30).but hB33 (by intro h1; first | omega | ((try dsimp only at h1); (repeat' first | (guard_hyp h1 : _ ∨ _; refine Or.elim h1 (fun h1 => ?_) (fun h1 => ?_)) | (guard_hyp h1 : _ ∧ _; have hx := h1.2; replace h1 := h1.1)) <;> first | contradiction | omega))).but hB37 (by intro h1; first | omega | ((try dsimp only at h1); (repeat' first | (guard_hyp h1 : _ ∨ _; refine Or.elim h1 (fun h1 => ?_) (fun h1 => ?_)) | (guard_hyp h1 : _ ∧ _; have hx := h1.2; replace h1 := h1.1)) <;> first | contradiction | omega))).but hB41 (by intro h1; first | omega | ((try dsimp only at h1); (repeat' first | (guard_hyp h1 : _ ∨ _; refine Or.elim h1 (fun h1 => ?_) (fun h1 => ?_)) | (guard_hyp h1 : _ ∧ _; have hx := h1.2; replace h1 := h1.1)) <;> first | contradiction | omega))).ext hE50).ext hE56).but hB59 (by intro h1; first | omega | ((try dsimp only at h1); (repeat' first | (guard_hyp h1 : _ ∨ _; refine Or.elim h1 (fun h1 => ?_) (fun h1 => ?_)) | (guard_hyp h1 : _ ∧ _; have hx := h1.2; replace h1 := h1.1)) <;> first | contradiction | omega))).but hB62 (by intro h1; first | omega | ((try dsimp only at h1); (repeat' first | (guard_hyp h1 : _ ∨ _; refine Or.elim h1 (fun h1 => ?_) (fun h1 => ?_)) | (guard_hyp h1 : _ ∧ _; have hx := h1.2; replace h1 := h1.1)) <;> first | contradiction | omega)))
  have h68 := (hB62.row (hB59.row (((hB41.row hR36 (by omega)).ext hE50).ext hE56) (by omega)) (by omega))
  have h69 := (((((((((((hn6.ext hE12).ext hE18).ext hE24).ext hE30).but hB33 (by intro h1; first | omega | ((try dsimp only at h1); (repeat' first | (guard_hyp h1 : _ ∨ _; refine Or.elim h1 (fun h1 => ?_) (fun h1 => ?_)) | (guard_hyp h1 : _ ∧ _; have hx := h1.2; replace h1 := h1.1)) <;> first | contradiction | omega))).but hB37 (by intro h1; first | omega | ((try dsimp only at h1); (repeat' first | (guard_hyp h1 : _ ∨ _; refine Or.elim h1 (fun h1 => ?_) (fun h1 => ?_)) | (guard_hyp h1 : _ ∧ _; have hx := h1.2; replace h1 := h1.1)) <;> first | contradiction | omega))).but hB41 (by intro h1; first | omega | ((try dsimp only at h1); (repeat' first | (guard_hyp h1 : _ ∨ _; refine Or.elim h1 (fun h1 => ?_) (fun h1 => ?_)) | (guard_hyp h1 : _ ∧ _; have hx := h1.2; replace h1 := h1.1)) <;> first | contradiction | omega))).ext hE50).ext hE56).but hB59 (by intro h1; first | omega | ((try dsimp only at h1); (repeat' first | (guard_hyp h1 : _ ∨ _; refine Or.elim h1 (fun h1 => ?_) (fun h1 => ?_)) | (guard_hyp h1 : _ ∧ _; have hx := h1.2; replace h1 := h1.1)) <;> first | contradiction | omega))).but hB62 (by intro h1; first | omega | ((try dsimp only at h1); (repeat' first | (guard_hyp h1 : _ ∨ _; refine Or.elim h1 (fun h1 => ?_) (fun h1 => ?_)) | (guard_hyp h1 : _ ∧ _; have hx := h1.2; replace h1 := h1.1)) <;> first | contradiction | omega)))
  have h70 := (hB62.row (hB59.row ((hR40.ext hE50).ext hE56) (by omega)) (by omega))
  have h71 := ((((((((((hn10.ext hE18).ext hE24).ext hE30).but hB33 (by intro h1; first | omega | ((try dsimp only at h1); (repeat' first | (guard_hyp h1 : _ ∨ _; refine Or.elim h1 (fun h1 => ?_) (fun h1 => ?_)) | (guard_hyp h1 : _ ∧ _; have hx := h1.2; replace h1 := h1.1)) <;> first | contradiction | omega))).but hB37 (by intro h1; first | omega | ((try dsimp only at h1); (repeat' first | (guard_hyp h1 : _ ∨ _; refine Or.elim h1 (fun h1 => ?_) (fun h1 => ?_)) | (guard_hyp h1 : _ ∧ _; have hx := h1.2; replace h1 := h1.1)) <;> first | contradiction | omega))).but hB41 (by intro h1; first | omega | ((try dsimp only at h1); (repeat' first | (guard_hyp h1 : _ ∨ _; refine Or.elim h1 (fun h1 => ?_) (fun h1 => ?_)) | (guard_hyp h1 : _ ∧ _; have hx := h1.2; replace h1 := h1.1)) <;> first | contradiction | omega))).ext hE50).ext hE56).but hB59 (by intro h1; first | omega | ((try dsimp only at h1); (repeat' first | (guard_hyp h1 : _ ∨ _; refine Or.elim h1 (fun h1 => ?_) (fun h1 => ?_)) | (guard_hyp h1 : _ ∧ _; have hx := h1.2; replace h1 := h1.1)) <;> first | contradiction | omega))).but hB62 (by intro h1; first | omega | ((try dsimp only at h1); (repeat' first | (guard_hyp h1 : _ ∨ _; refine Or.elim h1 (fun h1 => ?_) (fun h1 => ?_)) | (guard_hyp h1 : _ ∧ _; have hx := h1.2; replace h1 := h1.1)) <;> first | contradiction | omega)))
  refine WC.weaken (r' := [(6, .bool false), (18, .bool false), (7, .pointer (some ⟨b14, 0, none⟩)), (8, .pointer (some ⟨b20, 0, none⟩)), (9, .pointer (some ⟨b26, 0, none⟩)), (10, .pointer (some ⟨b46, 0, none⟩)), (11, .pointer (some ⟨b52, 0, none⟩))]) (subReg_cons rfl (subReg_cons rfl (subReg_cons rfl (subReg_cons rfl (subReg_cons rfl (subReg_cons rfl (subReg_cons rfl (subReg_nil _)))))))) ?_
  refine WC.draw 12 [27, 28, 29, 30, 31, 32, 33, 34, 35, 36, 12, 13] [pc (.agg #[.int .u8 A.kind, .int .u64 A.set.a, .int .u64 A.set.b, .int .u64 A.set.c, .int .u64 A.set.d, .int .i64 A.least, .int .i64 A.most, .slice a3 A.subs.length cap3]), pc (.agg #[.int .u8 B.kind, .int .u64 B.set.a, .int .u64 B.set.b, .int .u64 B.set.c, .int .u64 B.set.d, .int .i64 B.least, .int .i64 B.most, .slice a6 B.subs.length cap6]), pc (.agg #[.int .u8 C.kind, .int .u64 C.set.a, .int .u64 C.set.b, .int .u64 C.set.c, .int .u64 C.set.d, .int .i64 C.least, .int .i64 C.most, .slice a10 C.subs.length cap10]), pnodes (fun _ => True) ([A, B, C]), pnode (fun k => w63.heap.size ≤ k) (Nd.seq ([A, B, C])), pc (.agg #[.int .u8 A.kind, .int .u64 A.set.a, .int .u64 A.set.b, .int .u64 A.set.c, .int .u64 A.set.d, .int .i64 A.least, .int .i64 A.most, .slice a3 A.subs.length cap3]), pc (.agg #[.int .u8 B.kind, .int .u64 B.set.a, .int .u64 B.set.b, .int .u64 B.set.c, .int .u64 B.set.d, .int .i64 B.least, .int .i64 B.most, .slice a6 B.subs.length cap6]), pc (.agg #[.int .u8 C.kind, .int .u64 C.set.a, .int .u64 C.set.b, .int .u64 C.set.c, .int .u64 C.set.d, .int .i64 C.least, .int .i64 C.most, .slice a10 C.subs.length cap10]), pnodes (fun _ => True) ([A, B, C]), pnode (fun k => w63.heap.size ≤ k) (Nd.or ([A, B, C])), palloc 12 [.int .u8 0, .int .u64 0, .int .u64 0, .int .u64 0, .int .u64 0, .int .i64 0, .int .i64 0, .slice none 0 0] 29, palloc 13 [.int .u8 0, .int .u64 0, .int .u64 0, .int .u64 0, .int .u64 0, .int .i64 0, .int .i64 0, .slice none 0 0] 29] (by kernel_rfl) (by kernel_rfl) ⟨KW_pc _, KW_pc _, KW_pc _, KW_pnodes _ _, KW_pnode _ _, KW_pc _, KW_pc _, KW_pc _, KW_pnodes _ _, KW_pnode _ _, KW_palloc _ _ _, KW_palloc _ _ _, trivial⟩ rfl rfl rfl (StepsOn.cons ?_ (StepsOn.cons ?_ (StepsOn.cons ?_ (StepsOn.cons ?_ (StepsOn.cons ?_ (StepsOn.cons ?_ (StepsOn.cons ?_ (StepsOn.cons ?_ (StepsOn.cons ?_ (StepsOn.cons ?_ (StepsOn.cons ?_ (StepsOn.cons ?_ (StepsOn.nil _))))))))))))) ?_
  · intro σ β w1 hE1 hbi hk
    have hz1 := hE1.size
    refine ⟨[], (agree_nil _), ?_⟩
    refine WL.load_box rfl rfl rfl (h66.ext hE1) Ty.agg29 ?_
    refine WL.nil (fun a_ ha => ?_)
    exact ⟨_, β, ha, (Ext.refl _), BExt.refl _ _, hbi.ext (Ext.refl _), rfl⟩
  · intro σ β w1 hE1 hbi hk
    have hz1 := hE1.size
    refine ⟨[], (agree_nil _), ?_⟩
    refine WL.load_box rfl rfl rfl (h68.ext hE1) Ty.agg29 ?_
    refine WL.nil (fun a_ ha => ?_)
    exact ⟨_, β, ha, (Ext.refl _), BExt.refl _ _, hbi.ext (Ext.refl _), rfl⟩
  · intro σ β w1 hE1 hbi hk
    have hz1 := hE1.size
    refine ⟨[], (agree_nil _), ?_⟩
    refine WL.load_box rfl rfl rfl (h70.ext hE1) Ty.agg29 ?_
    refine WL.nil (fun a_ ha => ?_)
    exact ⟨_, β, ha, (Ext.refl _), BExt.refl _ _, hbi.ext (Ext.refl _), rfl⟩
  · intro σ β w1 hE1 hbi hk
    have hz1 := hE1.size
    obtain ⟨_, hv1472, rfl⟩ := hk 0 (by kernel_rfl) _ _ rfl rfl
    obtain ⟨_, hv1473, rfl⟩ := hk 1 (by kernel_rfl) _ _ rfl rfl
    obtain ⟨_, hv1474, rfl⟩ := hk 2 (by kernel_rfl) _ _ rfl rfl
    refine ⟨[(27, .agg #[.int .u8 A.kind, .int .u64 A.set.a, .int .u64 A.set.b, .int .u64 A.set.c, .int .u64 A.set.d, .int .i64 A.least, .int .i64 A.most, .slice a3 A.subs.length cap3]), (28, .agg #[.int .u8 B.kind, .int .u64 B.set.a, .int .u64 B.set.b, .int .u64 B.set.c, .int .u64 B.set.d, .int .i64 B.least, .int .i64 B.most, .slice a6 B.subs.length cap6]), (29, .agg #[.int .u8 C.kind, .int .u64 C.set.a, .int .u64 C.set.b, .int .u64 C.set.c, .int .u64 C.set.d, .int .i64 C.least, .int .i64 C.most, .slice a10 C.subs.length cap10])], (agree_cons (look_right rfl hv1472) (agree_cons (look_right rfl hv1473) (agree_cons (look_right rfl hv1474) (agree_nil _)))), ?_⟩
    refine WL.buildSlice (vs := [.agg #[.int .u8 A.kind, .int .u64 A.set.a, .int .u64 A.set.b, .int .u64 A.set.c, .int .u64 A.set.d, .int .i64 A.least, .int .i64 A.most, .slice a3 A.subs.length cap3], .agg #[.int .u8 B.kind, .int .u64 B.set.a, .int .u64 B.set.b, .int .u64 B.set.c, .int .u64 B.set.d, .int .i64 B.least, .int .i64 B.most, .slice a6 B.subs.length cap6], .agg #[.int .u8 C.kind, .int .u64 C.set.a, .int .u64 C.set.b, .int .u64 C.set.c, .int .u64 C.set.d, .int .i64 C.least, .int .i64 C.most, .slice a10 C.subs.length cap10]]) (cells := [.int .u8 A.kind, .int .u64 A.set.a, .int .u64 A.set.b, .int .u64 A.set.c, .int .u64 A.set.d, .int .i64 A.least, .int .i64 A.most, .slice a3 A.subs.length cap3, .int .u8 B.kind, .int .u64 B.set.a, .int .u64 B.set.b, .int .u64 B.set.c, .int .u64 B.set.d, .int .i64 B.least, .int .i64 B.most, .slice a6 B.subs.length cap6, .int .u8 C.kind, .int .u64 C.set.a, .int .u64 C.set.b, .int .u64 C.set.c, .int .u64 C.set.d, .int .i64 C.least, .int .i64 C.most, .slice a10 C.subs.length cap10]) rfl rfl Ty.slice27 Ty.zero29 rfl rfl rfl rfl rfl rfl (fun b1475 w1480 hb1476 hE1479 hs1477 hR1478 => ?_)
    have hts1475 := (NodesV.lit (n := 3) (ts := [A, B, C]) hR1478 (RowsL.cons ((h67.ext hE1).ext hE1479) (RowsL.cons ((h69.ext hE1).ext hE1479) (RowsL.cons ((h71.ext hE1).ext hE1479) (RowsL.nil' _)))) rfl rfl (by decide)).lt
    refine WL.nil (fun a_ ha => ?_)
    exact ⟨_, β, ha, hE1479, BExt.refl _ _, hbi.ext hE1479, ⟨_, _, rfl, (hts1475.dom (by intro k h1; refine ⟨trivial, ?_, h1.2⟩; replace h1 := h1.1; intro x hxm; have hi := hbi.hi x hxm; have lo := hbi.lo x hxm; (try dsimp only at h1); (repeat' first | (guard_hyp h1 : _ ∨ _; refine Or.elim h1 (fun h1 => ?_) (fun h1 => ?_)) | (guard_hyp h1 : _ ∧ _; have hx := h1.2; replace h1 := h1.1)) <;> first | contradiction | omega | exact hx.1 x hxm))⟩⟩
  · intro σ β w1 hE1 hbi hk
    have hz1 := hE1.size
    obtain ⟨_, hv1572, a1572, cap1572, rfl, hts1572⟩ := hk 3 (by kernel_rfl) _ _ rfl rfl
    have hts1572 := hts1572.lt
    have hlen1572 := hts1572.len
    refine ⟨[(30, .slice a1572 (([A, B, C]).length) cap1572)], (agree_cons (look_right rfl hv1572) (agree_nil _)), ?_⟩
    refine WL.call rfl rfl rfl Ty.ent10 (seq_ok _ _ _ _ ([A, B, C]) hts1572 (Nat.le_of_ble_eq_true rfl)) ?_
    rintro _ w1575 ⟨l1573, rfl, hr1573, hE1574⟩
    have hzhE1574 := hE1574.size
    refine ⟨_, rfl, ?_⟩
    have hn1573 := hr1573.lt
    obtain ⟨sl1573, rfl, hts1573⟩ := hn1573.opn
    obtain ⟨a1573, cap1573, rfl, hlen1573, -⟩ := hts1573.get
    refine WL.nil (fun a_ ha => ?_)
    exact ⟨_, β, ha, hE1574, BExt.refl _ _, hbi.ext hE1574, ⟨_, rfl, (hr1573.off0 hbi (fun k hk => Nat.le_trans hE1.size hk))⟩⟩
  · intro σ β w1 hE1 hbi hk
    have hz1 := hE1.size
    refine ⟨[], (agree_nil _), ?_⟩
    refine WL.load_box rfl rfl rfl (h66.ext hE1) Ty.agg29 ?_
    refine WL.nil (fun a_ ha => ?_)
    exact ⟨_, β, ha, (Ext.refl _), BExt.refl _ _, hbi.ext (Ext.refl _), rfl⟩
  · intro σ β w1 hE1 hbi hk
    have hz1 := hE1.size
    refine ⟨[], (agree_nil _), ?_⟩
    refine WL.load_box rfl rfl rfl (h68.ext hE1) Ty.agg29 ?_
    refine WL.nil (fun a_ ha => ?_)
    exact ⟨_, β, ha, (Ext.refl _), BExt.refl _ _, hbi.ext (Ext.refl _), rfl⟩
  · intro σ β w1 hE1 hbi hk
    have hz1 := hE1.size
    refine ⟨[], (agree_nil _), ?_⟩
    refine WL.load_box rfl rfl rfl (h70.ext hE1) Ty.agg29 ?_
    refine WL.nil (fun a_ ha => ?_)
    exact ⟨_, β, ha, (Ext.refl _), BExt.refl _ _, hbi.ext (Ext.refl _), rfl⟩
  · intro σ β w1 hE1 hbi hk
    have hz1 := hE1.size
    obtain ⟨_, hv1972, rfl⟩ := hk 5 (by kernel_rfl) _ _ rfl rfl
    obtain ⟨_, hv1973, rfl⟩ := hk 6 (by kernel_rfl) _ _ rfl rfl
    obtain ⟨_, hv1974, rfl⟩ := hk 7 (by kernel_rfl) _ _ rfl rfl
    refine ⟨[(32, .agg #[.int .u8 A.kind, .int .u64 A.set.a, .int .u64 A.set.b, .int .u64 A.set.c, .int .u64 A.set.d, .int .i64 A.least, .int .i64 A.most, .slice a3 A.subs.length cap3]), (33, .agg #[.int .u8 B.kind, .int .u64 B.set.a, .int .u64 B.set.b, .int .u64 B.set.c, .int .u64 B.set.d, .int .i64 B.least, .int .i64 B.most, .slice a6 B.subs.length cap6]), (34, .agg #[.int .u8 C.kind, .int .u64 C.set.a, .int .u64 C.set.b, .int .u64 C.set.c, .int .u64 C.set.d, .int .i64 C.least, .int .i64 C.most, .slice a10 C.subs.length cap10])], (agree_cons (look_right rfl hv1972) (agree_cons (look_right rfl hv1973) (agree_cons (look_right rfl hv1974) (agree_nil _)))), ?_⟩
    refine WL.buildSlice (vs := [.agg #[.int .u8 A.kind, .int .u64 A.set.a, .int .u64 A.set.b, .int .u64 A.set.c, .int .u64 A.set.d, .int .i64 A.least, .int .i64 A.most, .slice a3 A.subs.length cap3], .agg #[.int .u8 B.kind, .int .u64 B.set.a, .int .u64 B.set.b, .int .u64 B.set.c, .int .u64 B.set.d, .int .i64 B.least, .int .i64 B.most, .slice a6 B.subs.length cap6], .agg #[.int .u8 C.kind, .int .u64 C.set.a, .int .u64 C.set.b, .int .u64 C.set.c, .int .u64 C.set.d, .int .i64 C.least, .int .i64 C.most, .slice a10 C.subs.length cap10]]) (cells := [.int .u8 A.kind, .int .u64 A.set.a, .int .u64 A.set.b, .int .u64 A.set.c, .int .u64 A.set.d, .int .i64 A.least, .int .i64 A.most, .slice a3 A.subs.length cap3, .int .u8 B.kind, .int .u64 B.set.a, .int .u64 B.set.b, .int .u64 B.set.c, .int .u64 B.set.d, .int .i64 B.least, .int .i64 B.most, .slice a6 B.subs.length cap6, .int .u8 C.kind, .int .u64 C.set.a, .int .u64 C.set.b, .int .u64 C.set.c, .int .u64 C.set.d, .int .i64 C.least, .int .i64 C.most, .slice a10 C.subs.length cap10]) rfl rfl Ty.slice27 Ty.zero29 rfl rfl rfl rfl rfl rfl (fun b1975 w1980 hb1976 hE1979 hs1977 hR1978 => ?_)
    have hts1975 := (NodesV.lit (n := 3) (ts := [A, B, C]) hR1978 (RowsL.cons ((h67.ext hE1).ext hE1979) (RowsL.cons ((h69.ext hE1).ext hE1979) (RowsL.cons ((h71.ext hE1).ext hE1979) (RowsL.nil' _)))) rfl rfl (by decide)).lt
    refine WL.nil (fun a_ ha => ?_)
    exact ⟨_, β, ha, hE1979, BExt.refl _ _, hbi.ext hE1979, ⟨_, _, rfl, (hts1975.dom (by intro k h1; refine ⟨trivial, ?_, h1.2⟩; replace h1 := h1.1; intro x hxm; have hi := hbi.hi x hxm; have lo := hbi.lo x hxm; (try dsimp only at h1); (repeat' first | (guard_hyp h1 : _ ∨ _; refine Or.elim h1 (fun h1 => ?_) (fun h1 => ?_)) | (guard_hyp h1 : _ ∧ _; have hx := h1.2; replace h1 := h1.1)) <;> first | contradiction | omega | exact hx.1 x hxm))⟩⟩
  · intro σ β w1 hE1 hbi hk
    have hz1 := hE1.size
    obtain ⟨_, hv2072, a2072, cap2072, rfl, hts2072⟩ := hk 8 (by kernel_rfl) _ _ rfl rfl
    have hts2072 := hts2072.lt
    have hlen2072 := hts2072.len
    refine ⟨[(35, .slice a2072 (([A, B, C]).length) cap2072)], (agree_cons (look_right rfl hv2072) (agree_nil _)), ?_⟩
    refine WL.call rfl rfl rfl Ty.ent11 (or_ok _ _ _ _ ([A, B, C]) hts2072 (Nat.le_of_ble_eq_true rfl)) ?_
    rintro _ w2075 ⟨l2073, rfl, hr2073, hE2074⟩
    have hzhE2074 := hE2074.size
    refine ⟨_, rfl, ?_⟩
    have hn2073 := hr2073.lt
    obtain ⟨sl2073, rfl, hts2073⟩ := hn2073.opn
    obtain ⟨a2073, cap2073, rfl, hlen2073, -⟩ := hts2073.get
    refine WL.nil (fun a_ ha => ?_)
    exact ⟨_, β, ha, hE2074, BExt.refl _ _, hbi.ext hE2074, ⟨_, rfl, (hr2073.off0 hbi (fun k hk => Nat.le_trans hE1.size hk))⟩⟩
  · intro σ β w1 hE1 hbi hk
    have hz1 := hE1.size
    refine ⟨[], (agree_nil _), ?_⟩
    refine WL.alloc rfl rfl Ty.zero29 rfl (fun b2172 w2177 hb2173 hE2176 hs2174 hR2175 => ?_)
    refine WL.nil (fun a_ ha => ?_)
    exact ⟨_, (12, b2172) :: β, ha, hE2176, BExt.cons (Nat.le_of_eq hb2173.symm), hbi.cons hE2176 hE1.size (Nat.le_of_eq hb2173.symm) hR2175.lt, b2172, rfl, hR2175, .head _⟩
  · intro σ β w1 hE1 hbi hk
    have hz1 := hE1.size
    refine ⟨[], (agree_nil _), ?_⟩
    refine WL.alloc rfl rfl Ty.zero29 rfl (fun b2272 w2277 hb2273 hE2276 hs2274 hR2275 => ?_)
    refine WL.nil (fun a_ ha => ?_)
    exact ⟨_, (13, b2272) :: β, ha, hE2276, BExt.cons (Nat.le_of_eq hb2273.symm), hbi.cons hE2276 hE1.size (Nat.le_of_eq hb2273.symm) hR2275.lt, b2272, rfl, hR2275, .head _⟩
  intro σ β w971 hE971 hbi971 hk
  have hz971 := hE971.size
  have hbi := hbi971
  obtain ⟨_, hv972, b972, rfl, hR972, hm972⟩ := hk 10 (by decide) _ _ rfl rfl
  have hlo972 := hbi.lo _ hm972
  have hhi972 := hbi.hi _ hm972
  obtain ⟨_, hv973, b973, rfl, hR973, hm973⟩ := hk 11 (by decide) _ _ rfl rfl
  have hlo973 := hbi.lo _ hm973
  have hhi973 := hbi.hi _ hm973
  have hne973_972 : b973 ≠ b972 := fun h => by have := hbi.one _ _ hm973 hm972 h; simp at this
  have hne972_973 := hne973_972.symm
  obtain ⟨_, hv974, l974, rfl, hn974⟩ := hk 4 (by decide) _ _ rfl rfl
  have hn974 := hn974.dom (D' := fun k => ((w63.heap.size ≤ k) ∧ b972 ≠ k ∧ b973 ≠ k) ∧ k < w971.heap.size) (fun k h => ⟨⟨h.1, h.2.1 _ hm972, h.2.1 _ hm973⟩, h.2.2⟩)
  obtain ⟨sl974, rfl, hts974⟩ := hn974.opn
  obtain ⟨a974, cap974, rfl, hlen974, -⟩ := hts974.get
  obtain ⟨_, hv975, l975, rfl, hn975⟩ := hk 9 (by decide) _ _ rfl rfl
  have hn975 := hn975.dom (D' := fun k => ((w63.heap.size ≤ k) ∧ b972 ≠ k ∧ b973 ≠ k) ∧ k < w971.heap.size) (fun k h => ⟨⟨h.1, h.2.1 _ hm972, h.2.1 _ hm973⟩, h.2.2⟩)
  obtain ⟨sl975, rfl, hts975⟩ := hn975.opn
  obtain ⟨a975, cap975, rfl, hlen975, -⟩ := hts975.get
  refine WL.know [(12, .pointer (some ⟨b972, 0, none⟩)), (13, .pointer (some ⟨b973, 0, none⟩)), (31, .agg #[.int .u8 (Nd.seq ([A, B, C])).kind, .int .u64 (Nd.seq ([A, B, C])).set.a, .int .u64 (Nd.seq ([A, B, C])).set.b, .int .u64 (Nd.seq ([A, B, C])).set.c, .int .u64 (Nd.seq ([A, B, C])).set.d, .int .i64 (Nd.seq ([A, B, C])).least, .int .i64 (Nd.seq ([A, B, C])).most, .slice a974 (Nd.seq ([A, B, C])).subs.length cap974]), (36, .agg #[.int .u8 (Nd.or ([A, B, C])).kind, .int .u64 (Nd.or ([A, B, C])).set.a, .int .u64 (Nd.or ([A, B, C])).set.b, .int .u64 (Nd.or ([A, B, C])).set.c, .int .u64 (Nd.or ([A, B, C])).set.d, .int .i64 (Nd.or ([A, B, C])).least, .int .i64 (Nd.or ([A, B, C])).most, .slice a975 (Nd.or ([A, B, C])).subs.length cap975])] (agree_cons (look_right rfl hv972) (agree_cons (look_right rfl hv973) (agree_cons (look_right rfl hv974) (agree_cons (look_right rfl hv975) (agree_nil _))))) ?_
  refine WL.store_box rfl rfl rfl hR972 Ty.agg29 rfl rfl (fun w978 hB977 hR976 => ?_)
  have hzhB977 := hB977.size
  refine WL.store_box rfl rfl rfl (hB977.row hR973 (by omega)) Ty.agg29 rfl rfl (fun w981 hB980 hR979 => ?_)
  have hzhB980 := hB980.size
  refine WL.done' ?_ (fun _ _ h => h)
  refine WC.seqk ?_
  refine WC.seqk ?_
  refine WC.region ?_
  have h982 := (hB980.row (hB977.row (h66.ext hE971) (by omega)) (by omega))
  refine WL.load_box rfl rfl rfl h982 Ty.agg29 ?_
  have h983 := (((h67.ext hE971).but hB977 (by intro h1; first | omega | ((try dsimp only at h1); (repeat' first | (guard_hyp h1 : _ ∨ _; refine Or.elim h1 (fun h1 => ?_) (fun h1 => ?_)) | (guard_hyp h1 : _ ∧ _; have hx := h1.2; replace h1 := h1.1)) <;> first | contradiction | omega))).but hB980 (by intro h1; first | omega | ((try dsimp only at h1); (repeat' first | (guard_hyp h1 : _ ∨ _; refine Or.elim h1 (fun h1 => ?_) (fun h1 => ?_)) | (guard_hyp h1 : _ ∧ _; have hx := h1.2; replace h1 := h1.1)) <;> first | contradiction | omega)))
  refine WL.call rfl rfl rfl Ty.ent12 (clean_ok _ _ _ _ h983) ?_
  rintro _ w985 ⟨he, hE984⟩
  have hq : (Nd.clean A) = true := hfA.clean
  rw [hq] at he
  subst he
  clear hq
  have hzhE984 := hE984.size
  refine ⟨_, rfl, ?_⟩
  refine WL.not rfl rfl rfl ?_
  refine WL.move rfl rfl rfl ?_
  have h986 := ((hB980.row hR976 (by omega)).ext hE984)
  refine WL.load_box rfl rfl rfl h986 Ty.agg29 ?_
  have h987 := (((hn974.but hB977 (by intro h1; first | omega | ((try dsimp only at h1); (repeat' first | (guard_hyp h1 : _ ∨ _; refine Or.elim h1 (fun h1 => ?_) (fun h1 => ?_)) | (guard_hyp h1 : _ ∧ _; have hx := h1.2; replace h1 := h1.1)) <;> first | contradiction | omega))).but hB980 (by intro h1; first | omega | ((try dsimp only at h1); (repeat' first | (guard_hyp h1 : _ ∨ _; refine Or.elim h1 (fun h1 => ?_) (fun h1 => ?_)) | (guard_hyp h1 : _ ∧ _; have hx := h1.2; replace h1 := h1.1)) <;> first | contradiction | omega))).ext hE984)
  refine WL.call rfl rfl rfl Ty.ent12 (clean_ok _ _ _ _ h987) ?_
  rintro _ w989 ⟨he, hE988⟩
  have hq : (Nd.clean (Nd.seq ([A, B, C]))) = true := hS.clean
  rw [hq] at he
  subst he
  clear hq
  have hzhE988 := hE988.size
  refine ⟨_, rfl, ?_⟩
  refine WL.not rfl rfl rfl ?_
  refine WL.pick_f rfl rfl rfl rfl ?_
  refine WL.move rfl rfl rfl ?_
  have h990 := ((hR979.ext hE984).ext hE988)
  refine WL.load_box rfl rfl rfl h990 Ty.agg29 ?_
  have h991 := ((((hn975.but hB977 (by intro h1; first | omega | ((try dsimp only at h1); (repeat' first | (guard_hyp h1 : _ ∨ _; refine Or.elim h1 (fun h1 => ?_) (fun h1 => ?_)) | (guard_hyp h1 : _ ∧ _; have hx := h1.2; replace h1 := h1.1)) <;> first | contradiction | omega))).but hB980 (by intro h1; first | omega | ((try dsimp only at h1); (repeat' first | (guard_hyp h1 : _ ∨ _; refine Or.elim h1 (fun h1 => ?_) (fun h1 => ?_)) | (guard_hyp h1 : _ ∧ _; have hx := h1.2; replace h1 := h1.1)) <;> first | contradiction | omega))).ext hE984).ext hE988)
  refine WL.call rfl rfl rfl Ty.ent12 (clean_ok _ _ _ _ h991) ?_
  rintro _ w993 ⟨he, hE992⟩
  have hq : (Nd.clean (Nd.or ([A, B, C]))) = true := hO.clean
  rw [hq] at he
  subst he
  clear hq
  have hzhE992 := hE992.size
  refine ⟨_, rfl, ?_⟩
  refine WL.not rfl rfl rfl ?_
  refine WL.pick_f rfl rfl rfl rfl ?_
  refine WL.move rfl rfl rfl ?_
  have h994 := (((h982.ext hE984).ext hE988).ext hE992)
  refine WL.load_box rfl rfl rfl h994 Ty.agg29 ?_
  refine WL.build (l := [.bool false, .bool false, .int .u8 A.kind, .int .u64 A.set.a, .int .u64 A.set.b, .int .u64 A.set.c, .int .u64 A.set.d, .int .i64 A.least, .int .i64 A.most, .slice a3 A.subs.length cap3]) rfl rfl Ty.zero36 Ty.st36 ⟨⟨rfl, rfl⟩, (by kernel_rfl)⟩ ?_
  have h995 := (((h983.ext hE984).ext hE988).ext hE992)
  refine WL.call rfl rfl rfl Ty.ent13 (check_ok _ _ false false _ A h995) ?_
  rintro _ w997 ⟨rfl, hE996⟩
  have hzhE996 := hE996.size
  refine ⟨_, rfl, ?_⟩
  refine WL.neq (b := false) rfl rfl rfl rfl (by rw [hmA.check]; rfl) ?_
  refine WL.pick_f rfl rfl rfl rfl ?_
  refine WL.done' ?_ (fun _ _ h => h)
  refine WC.cond_f rfl ?_
  refine WC.skip'' ?_ (fun _ _ h => h)
  refine WC.seqk ?_
  refine WC.seqk ?_
  have h998 := (((h987.ext hE988).ext hE992).ext hE996)
  have h999 := ((h991.ext hE992).ext hE996)
  have h1000 := (((((hB980.row (hB977.row (h68.ext hE971) (by omega)) (by omega)).ext hE984).ext hE988).ext hE992).ext hE996)
  have h1001 := (((((((h69.ext hE971).but hB977 (by intro h1; first | omega | ((try dsimp only at h1); (repeat' first | (guard_hyp h1 : _ ∨ _; refine Or.elim h1 (fun h1 => ?_) (fun h1 => ?_)) | (guard_hyp h1 : _ ∧ _; have hx := h1.2; replace h1 := h1.1)) <;> first | contradiction | omega))).but hB980 (by intro h1; first | omega | ((try dsimp only at h1); (repeat' first | (guard_hyp h1 : _ ∨ _; refine Or.elim h1 (fun h1 => ?_) (fun h1 => ?_)) | (guard_hyp h1 : _ ∧ _; have hx := h1.2; replace h1 := h1.1)) <;> first | contradiction | omega))).ext hE984).ext hE988).ext hE992).ext hE996)
  have h1002 := (((((hB980.row (hB977.row (h70.ext hE971) (by omega)) (by omega)).ext hE984).ext hE988).ext hE992).ext hE996)
  have h1003 := (((((((h71.ext hE971).but hB977 (by intro h1; first | omega | ((try dsimp only at h1); (repeat' first | (guard_hyp h1 : _ ∨ _; refine Or.elim h1 (fun h1 => ?_) (fun h1 => ?_)) | (guard_hyp h1 : _ ∧ _; have hx := h1.2; replace h1 := h1.1)) <;> first | contradiction | omega))).but hB980 (by intro h1; first | omega | ((try dsimp only at h1); (repeat' first | (guard_hyp h1 : _ ∨ _; refine Or.elim h1 (fun h1 => ?_) (fun h1 => ?_)) | (guard_hyp h1 : _ ∧ _; have hx := h1.2; replace h1 := h1.1)) <;> first | contradiction | omega))).ext hE984).ext hE988).ext hE992).ext hE996)
  have h1004 := (((((hB980.row (hB977.row ((hB62.row hR58 (by omega)).ext hE971) (by omega)) (by omega)).ext hE984).ext hE988).ext hE992).ext hE996)
  have h1005 := (((((((h64.ext hE971).but hB977 (by intro h1; first | omega | ((try dsimp only at h1); (repeat' first | (guard_hyp h1 : _ ∨ _; refine Or.elim h1 (fun h1 => ?_) (fun h1 => ?_)) | (guard_hyp h1 : _ ∧ _; have hx := h1.2; replace h1 := h1.1)) <;> first | contradiction | omega))).but hB980 (by intro h1; first | omega | ((try dsimp only at h1); (repeat' first | (guard_hyp h1 : _ ∨ _; refine Or.elim h1 (fun h1 => ?_) (fun h1 => ?_)) | (guard_hyp h1 : _ ∧ _; have hx := h1.2; replace h1 := h1.1)) <;> first | contradiction | omega))).ext hE984).ext hE988).ext hE992).ext hE996)
  have h1006 := (((((hB980.row (hB977.row (hR61.ext hE971) (by omega)) (by omega)).ext hE984).ext hE988).ext hE992).ext hE996)
  have h1007 := (((((((h65.ext hE971).but hB977 (by intro h1; first | omega | ((try dsimp only at h1); (repeat' first | (guard_hyp h1 : _ ∨ _; refine Or.elim h1 (fun h1 => ?_) (fun h1 => ?_)) | (guard_hyp h1 : _ ∧ _; have hx := h1.2; replace h1 := h1.1)) <;> first | contradiction | omega))).but hB980 (by intro h1; first | omega | ((try dsimp only at h1); (repeat' first | (guard_hyp h1 : _ ∨ _; refine Or.elim h1 (fun h1 => ?_) (fun h1 => ?_)) | (guard_hyp h1 : _ ∧ _; have hx := h1.2; replace h1 := h1.1)) <;> first | contradiction | omega))).ext hE984).ext hE988).ext hE992).ext hE996)
  have h1008 := (((h986.ext hE988).ext hE992).ext hE996)
  have h1009 := ((h990.ext hE992).ext hE996)
  refine WC.weaken (r' := [(6, .bool false), (18, .bool false), (7, .pointer (some ⟨b14, 0, none⟩)), (8, .pointer (some ⟨b20, 0, none⟩)), (9, .pointer (some ⟨b26, 0, none⟩)), (10, .pointer (some ⟨b46, 0, none⟩)), (11, .pointer (some ⟨b52, 0, none⟩)), (12, .pointer (some ⟨b972, 0, none⟩)), (13, .pointer (some ⟨b973, 0, none⟩)), (55, .bool false)]) (subReg_cons rfl (subReg_cons rfl (subReg_cons rfl (subReg_cons rfl (subReg_cons rfl (subReg_cons rfl (subReg_cons rfl (subReg_cons rfl (subReg_cons rfl (subReg_cons rfl (subReg_nil _))))))))))) ?_
  refine WC.draw 86 [56, 57, 58, 59, 60, 61, 62, 63, 64, 65, 66, 67, 68, 69, 70, 71, 72, 73, 74, 75, 76, 77, 78, 79, 80, 81, 82, 83, 84, 85, 86, 87, 88, 89, 90, 91, 92, 93, 94, 95, 96, 97, 98, 99, 100, 101, 102, 103, 104, 105, 106, 107, 108, 109, 110, 111, 112, 113, 114, 115, 116, 117, 118, 119, 120, 121, 122, 123, 124, 125, 126, 127, 128, 129, 130, 131, 132, 133, 134, 135, 136, 137, 138, 139, 140, 141] [pc (.agg #[.int .u8 (Nd.seq ([A, B, C])).kind, .int .u64 (Nd.seq ([A, B, C])).set.a, .int .u64 (Nd.seq ([A, B, C])).set.b, .int .u64 (Nd.seq ([A, B, C])).set.c, .int .u64 (Nd.seq ([A, B, C])).set.d, .int .i64 (Nd.seq ([A, B, C])).least, .int .i64 (Nd.seq ([A, B, C])).most, .slice a974 (Nd.seq ([A, B, C])).subs.length cap974]), pc (.agg #[.int .u8 A.kind, .int .u64 A.set.a, .int .u64 A.set.b, .int .u64 A.set.c, .int .u64 A.set.d, .int .i64 A.least, .int .i64 A.most, .slice a3 A.subs.length cap3]), pc (.agg #[.int .u8 B.kind, .int .u64 B.set.a, .int .u64 B.set.b, .int .u64 B.set.c, .int .u64 B.set.d, .int .i64 B.least, .int .i64 B.most, .slice a6 B.subs.length cap6]), pnodes (fun _ => True) ([A, B]), pnode (fun k => w997.heap.size ≤ k) (Nd.seq ([A, B])), pc (.agg #[.int .u8 C.kind, .int .u64 C.set.a, .int .u64 C.set.b, .int .u64 C.set.c, .int .u64 C.set.d, .int .i64 C.least, .int .i64 C.most, .slice a10 C.subs.length cap10]), pnodes (fun _ => True) ([(Nd.seq ([A, B])), C]), pnode (fun k => w997.heap.size ≤ k) (Nd.seq ([(Nd.seq ([A, B])), C])), pc (.bool true), pc (.bool false), pc (.bool false), pc (.agg #[.int .u8 (Nd.seq ([A, B, C])).kind, .int .u64 (Nd.seq ([A, B, C])).set.a, .int .u64 (Nd.seq ([A, B, C])).set.b, .int .u64 (Nd.seq ([A, B, C])).set.c, .int .u64 (Nd.seq ([A, B, C])).set.d, .int .i64 (Nd.seq ([A, B, C])).least, .int .i64 (Nd.seq ([A, B, C])).most, .slice a974 (Nd.seq ([A, B, C])).subs.length cap974]), pc (.agg #[.int .u8 A.kind, .int .u64 A.set.a, .int .u64 A.set.b, .int .u64 A.set.c, .int .u64 A.set.d, .int .i64 A.least, .int .i64 A.most, .slice a3 A.subs.length cap3]), pc (.agg #[.int .u8 B.kind, .int .u64 B.set.a, .int .u64 B.set.b, .int .u64 B.set.c, .int .u64 B.set.d, .int .i64 B.least, .int .i64 B.most, .slice a6 B.subs.length cap6]), pc (.agg #[.int .u8 C.kind, .int .u64 C.set.a, .int .u64 C.set.b, .int .u64 C.set.c, .int .u64 C.set.d, .int .i64 C.least, .int .i64 C.most, .slice a10 C.subs.length cap10]), pnodes (fun _ => True) ([B, C]), pnode (fun k => w997.heap.size ≤ k) (Nd.seq ([B, C])), pnodes (fun _ => True) ([A, (Nd.seq ([B, C]))]), pnode (fun k => w997.heap.size ≤ k) (Nd.seq ([A, (Nd.seq ([B, C]))])), pc (.bool true), pc (.bool false), pc (.bool false), pc (.bool false), pc (.agg #[.int .u8 (Nd.or ([A, B, C])).kind, .int .u64 (Nd.or ([A, B, C])).set.a, .int .u64 (Nd.or ([A, B, C])).set.b, .int .u64 (Nd.or ([A, B, C])).set.c, .int .u64 (Nd.or ([A, B, C])).set.d, .int .i64 (Nd.or ([A, B, C])).least, .int .i64 (Nd.or ([A, B, C])).most, .slice a975 (Nd.or ([A, B, C])).subs.length cap975]), pc (.agg #[.int .u8 A.kind, .int .u64 A.set.a, .int .u64 A.set.b, .int .u64 A.set.c, .int .u64 A.set.d, .int .i64 A.least, .int .i64 A.most, .slice a3 A.subs.length cap3]), pc (.agg #[.int .u8 B.kind, .int .u64 B.set.a, .int .u64 B.set.b, .int .u64 B.set.c, .int .u64 B.set.d, .int .i64 B.least, .int .i64 B.most, .slice a6 B.subs.length cap6]), pnodes (fun _ => True) ([A, B]), pnode (fun k => w997.heap.size ≤ k) (Nd.or ([A, B])), pc (.agg #[.int .u8 C.kind, .int .u64 C.set.a, .int .u64 C.set.b, .int .u64 C.set.c, .int .u64 C.set.d, .int .i64 C.least, .int .i64 C.most, .slice a10 C.subs.length cap10]), pnodes (fun _ => True) ([(Nd.or ([A, B])), C]), pnode (fun k => w997.heap.size ≤ k) (Nd.or ([(Nd.or ([A, B])), C])), pc (.bool true), pc (.bool false), pc (.bool false), pc (.bool false), pc (.agg #[.int .u8 (Nd.or ([A, B, C])).kind, .int .u64 (Nd.or ([A, B, C])).set.a, .int .u64 (Nd.or ([A, B, C])).set.b, .int .u64 (Nd.or ([A, B, C])).set.c, .int .u64 (Nd.or ([A, B, C])).set.d, .int .i64 (Nd.or ([A, B, C])).least, .int .i64 (Nd.or ([A, B, C])).most, .slice a975 (Nd.or ([A, B, C])).subs.length cap975]), pc (.agg #[.int .u8 A.kind, .int .u64 A.set.a, .int .u64 A.set.b, .int .u64 A.set.c, .int .u64 A.set.d, .int .i64 A.least, .int .i64 A.most, .slice a3 A.subs.length cap3]), pc (.agg #[.int .u8 B.kind, .int .u64 B.set.a, .int .u64 B.set.b, .int .u64 B.set.c, .int .u64 B.set.d, .int .i64 B.least, .int .i64 B.most, .slice a6 B.subs.length cap6]), pc (.agg #[.int .u8 C.kind, .int .u64 C.set.a, .int .u64 C.set.b, .int .u64 C.set.c, .int .u64 C.set.d, .int .i64 C.least, .int .i64 C.most, .slice a10 C.subs.length cap10]), pnodes (fun _ => True) ([B, C]), pnode (fun k => w997.heap.size ≤ k) (Nd.or ([B, C])), pnodes (fun _ => True) ([A, (Nd.or ([B, C]))]), pnode (fun k => w997.heap.size ≤ k) (Nd.or ([A, (Nd.or ([B, C]))])), pc (.bool true), pc (.bool false), pc (.bool false), pc (.bool false), pc (.agg #[.int .u8 1, .int .u64 0, .int .u64 0, .int .u64 0, .int .u64 0, .int .i64 0, .int .i64 0, .slice none 0 0]), pc (.agg #[.int .u8 A.kind, .int .u64 A.set.a, .int .u64 A.set.b, .int .u64 A.set.c, .int .u64 A.set.d, .int .i64 A.least, .int .i64 A.most, .slice a3 A.subs.length cap3]), pc (.agg #[.int .u8 1, .int .u64 0, .int .u64 0, .int .u64 0, .int .u64 0, .int .i64 0, .int .i64 0, .slice none 0 0]), pnodes (fun _ => True) ([(Nd.mk 1 Nd.zero 0 0 ([])), A, (Nd.mk 1 Nd.zero 0 0 ([]))]), pnode (fun k => w997.heap.size ≤ k) (Nd.seq ([(Nd.mk 1 Nd.zero 0 0 ([])), A, (Nd.mk 1 Nd.zero 0 0 ([]))])), pc (.agg #[.int .u8 A.kind, .int .u64 A.set.a, .int .u64 A.set.b, .int .u64 A.set.c, .int .u64 A.set.d, .int .i64 A.least, .int .i64 A.most, .slice a3 A.subs.length cap3]), pc (.bool true), pc (.bool false), pc (.bool false), pc (.bool false), pc (.agg #[.int .u8 0, .int .u64 0, .int .u64 0, .int .u64 0, .int .u64 0, .int .i64 0, .int .i64 0, .slice none 0 0]), pc (.agg #[.int .u8 A.kind, .int .u64 A.set.a, .int .u64 A.set.b, .int .u64 A.set.c, .int .u64 A.set.d, .int .i64 A.least, .int .i64 A.most, .slice a3 A.subs.length cap3]), pnodes (fun _ => True) ([(Nd.mk 0 Nd.zero 0 0 ([])), A]), pnode (fun k => w997.heap.size ≤ k) (Nd.or ([(Nd.mk 0 Nd.zero 0 0 ([])), A])), pc (.agg #[.int .u8 A.kind, .int .u64 A.set.a, .int .u64 A.set.b, .int .u64 A.set.c, .int .u64 A.set.d, .int .i64 A.least, .int .i64 A.most, .slice a3 A.subs.length cap3]), pc (.bool true), pc (.bool false), pc (.bool false), pc (.bool false), pc (.agg #[.int .u8 A.kind, .int .u64 A.set.a, .int .u64 A.set.b, .int .u64 A.set.c, .int .u64 A.set.d, .int .i64 A.least, .int .i64 A.most, .slice a3 A.subs.length cap3]), pc (.agg #[.int .u8 0, .int .u64 0, .int .u64 0, .int .u64 0, .int .u64 0, .int .i64 0, .int .i64 0, .slice none 0 0]), pc (.agg #[.int .u8 B.kind, .int .u64 B.set.a, .int .u64 B.set.b, .int .u64 B.set.c, .int .u64 B.set.d, .int .i64 B.least, .int .i64 B.most, .slice a6 B.subs.length cap6]), pnodes (fun _ => True) ([A, (Nd.mk 0 Nd.zero 0 0 ([])), B]), pnode (fun k => w997.heap.size ≤ k) (Nd.seq ([A, (Nd.mk 0 Nd.zero 0 0 ([])), B])), pc (.int .u8 ((Nd.seq ([A, (Nd.mk 0 Nd.zero 0 0 ([])), B])).kind)), pc (.bool false), pc (.bool false), pc (.bool false), pnode (fun k => w997.heap.size ≤ k) (Nd.seq []), pc (.agg #[.int .u8 1, .int .u64 0, .int .u64 0, .int .u64 0, .int .u64 0, .int .i64 0, .int .i64 0, .slice none 0 0]), pc (.bool true), pc (.bool false), pc (.bool false), pc (.bool false), pnode (fun k => w997.heap.size ≤ k) (Nd.or []), pc (.agg #[.int .u8 0, .int .u64 0, .int .u64 0, .int .u64 0, .int .u64 0, .int .i64 0, .int .i64 0, .slice none 0 0]), pc (.bool true), pc (.bool false), pc (.bool false)] (by kernel_rfl) (by kernel_rfl) ⟨KW_pc _, KW_pc _, KW_pc _, KW_pnodes _ _, KW_pnode _ _, KW_pc _, KW_pnodes _ _, KW_pnode _ _, KW_pc _, KW_pc _, KW_pc _, KW_pc _, KW_pc _, KW_pc _, KW_pc _, KW_pnodes _ _, KW_pnode _ _, KW_pnodes _ _, KW_pnode _ _, KW_pc _, KW_pc _, KW_pc _, KW_pc _, KW_pc _, KW_pc _, KW_pc _, KW_pnodes _ _, KW_pnode _ _, KW_pc _, KW_pnodes _ _, KW_pnode _ _, KW_pc _, KW_pc _, KW_pc _, KW_pc _, KW_pc _, KW_pc _, KW_pc _, KW_pc _, KW_pnodes _ _, KW_pnode _ _, KW_pnodes _ _, KW_pnode _ _, KW_pc _, KW_pc _, KW_pc _, KW_pc _, KW_pc _, KW_pc _, KW_pc _, KW_pnodes _ _, KW_pnode _ _, KW_pc _, KW_pc _, KW_pc _, KW_pc _, KW_pc _, KW_pc _, KW_pc _, KW_pnodes _ _, KW_pnode _ _, KW_pc _, KW_pc _, KW_pc _, KW_pc _, KW_pc _, KW_pc _, KW_pc _, KW_pc _, KW_pnodes _ _, KW_pnode _ _, KW_pc _, KW_pc _, KW_pc _, KW_pc _, KW_pnode _ _, KW_pc _, KW_pc _, KW_pc _, KW_pc _, KW_pc _, KW_pnode _ _, KW_pc _, KW_pc _, KW_pc _, KW_pc _, trivial⟩ rfl rfl rfl (StepsOn.cons ?_ (StepsOn.cons ?_ (StepsOn.cons ?_ (StepsOn.cons ?_ (StepsOn.cons ?_ (StepsOn.cons ?_ (StepsOn.cons ?_ (StepsOn.cons ?_ (StepsOn.cons ?_ (StepsOn.cons ?_ (StepsOn.cons ?_ (StepsOn.cons ?_ (StepsOn.cons ?_ (StepsOn.cons ?_ (StepsOn.cons ?_ (StepsOn.cons ?_ (StepsOn.cons ?_ (StepsOn.cons ?_ (StepsOn.cons ?_ (StepsOn.cons ?_ (StepsOn.cons ?_ (StepsOn.cons ?_ (StepsOn.cons ?_ (StepsOn.cons ?_ (StepsOn.cons ?_ (StepsOn.cons ?_ (StepsOn.cons ?_ (StepsOn.cons ?_ (StepsOn.cons ?_ (StepsOn.cons ?_ (StepsOn.cons ?_ (StepsOn.cons ?_ (StepsOn.cons ?_ (StepsOn.cons ?_ (StepsOn.cons ?_ (StepsOn.cons ?_ (StepsOn.cons ?_ (StepsOn.cons ?_ (StepsOn.cons ?_ (StepsOn.cons ?_ (StepsOn.cons ?_ (StepsOn.cons ?_ (StepsOn.cons ?_ (StepsOn.cons ?_ (StepsOn.cons ?_ (StepsOn.cons ?_ (StepsOn.cons ?_ (StepsOn.cons ?_ (StepsOn.cons ?_ (StepsOn.cons ?_ (StepsOn.cons ?_ (StepsOn.cons ?_ (StepsOn.cons ?_ (StepsOn.cons ?_ (StepsOn.cons ?_ (StepsOn.cons ?_ (StepsOn.cons ?_ (StepsOn.cons ?_ (StepsOn.cons ?_ (StepsOn.cons ?_ (StepsOn.cons ?_ (StepsOn.cons ?_ (StepsOn.cons ?_ (StepsOn.cons ?_ (StepsOn.cons ?_ (StepsOn.cons ?_ (StepsOn.cons ?_ (StepsOn.cons ?_ (StepsOn.cons ?_ (StepsOn.cons ?_ (StepsOn.cons ?_ (StepsOn.cons ?_ (StepsOn.cons ?_ (StepsOn.cons ?_ (StepsOn.cons ?_ (StepsOn.cons ?_ (StepsOn.cons ?_ (StepsOn.cons ?_ (StepsOn.cons ?_ (StepsOn.cons ?_ (StepsOn.cons ?_ (StepsOn.cons ?_ (StepsOn.cons ?_ (StepsOn.cons ?_ (StepsOn.cons ?_ (StepsOn.cons ?_ (StepsOn.nil _))))))))))))))))))))))))))))))))))))))))))))))))))))))))))))))))))))))))))))))))))))))) ?_
  · intro σ β w1 hE1 hbi hk
    have hz1 := hE1.size
    refine ⟨[], (agree_nil _), ?_⟩
    refine WL.load_box rfl rfl rfl (h1008.ext hE1) Ty.agg29 ?_
    refine WL.nil (fun a_ ha => ?_)
    exact ⟨_, β, ha, (Ext.refl _), BExt.refl _ _, hbi.ext (Ext.refl _), rfl⟩
  · intro σ β w1 hE1 hbi hk
    have hz1 := hE1.size
    refine ⟨[], (agree_nil _), ?_⟩
    have h2210 := ((h994.ext hE996).ext hE1)
    refine WL.load_box rfl rfl rfl h2210 Ty.agg29 ?_
    refine WL.nil (fun a_ ha => ?_)
    exact ⟨_, β, ha, (Ext.refl _), BExt.refl _ _, hbi.ext (Ext.refl _), rfl⟩
  · intro σ β w1 hE1 hbi hk
    have hz1 := hE1.size
    refine ⟨[], (agree_nil _), ?_⟩
    refine WL.load_box rfl rfl rfl (h1000.ext hE1) Ty.agg29 ?_
    refine WL.nil (fun a_ ha => ?_)
    exact ⟨_, β, ha, (Ext.refl _), BExt.refl _ _, hbi.ext (Ext.refl _), rfl⟩
  · intro σ β w1 hE1 hbi hk
    have hz1 := hE1.size
    obtain ⟨_, hv2410, rfl⟩ := hk 1 (by kernel_rfl) _ _ rfl rfl
    obtain ⟨_, hv2411, rfl⟩ := hk 2 (by kernel_rfl) _ _ rfl rfl
    refine ⟨[(57, .agg #[.int .u8 A.kind, .int .u64 A.set.a, .int .u64 A.set.b, .int .u64 A.set.c, .int .u64 A.set.d, .int .i64 A.least, .int .i64 A.most, .slice a3 A.subs.length cap3]), (58, .agg #[.int .u8 B.kind, .int .u64 B.set.a, .int .u64 B.set.b, .int .u64 B.set.c, .int .u64 B.set.d, .int .i64 B.least, .int .i64 B.most, .slice a6 B.subs.length cap6])], (agree_cons (look_right rfl hv2410) (agree_cons (look_right rfl hv2411) (agree_nil _))), ?_⟩
    have h2412 := ((h995.ext hE996).ext hE1)
    refine WL.buildSlice (vs := [.agg #[.int .u8 A.kind, .int .u64 A.set.a, .int .u64 A.set.b, .int .u64 A.set.c, .int .u64 A.set.d, .int .i64 A.least, .int .i64 A.most, .slice a3 A.subs.length cap3], .agg #[.int .u8 B.kind, .int .u64 B.set.a, .int .u64 B.set.b, .int .u64 B.set.c, .int .u64 B.set.d, .int .i64 B.least, .int .i64 B.most, .slice a6 B.subs.length cap6]]) (cells := [.int .u8 A.kind, .int .u64 A.set.a, .int .u64 A.set.b, .int .u64 A.set.c, .int .u64 A.set.d, .int .i64 A.least, .int .i64 A.most, .slice a3 A.subs.length cap3, .int .u8 B.kind, .int .u64 B.set.a, .int .u64 B.set.b, .int .u64 B.set.c, .int .u64 B.set.d, .int .i64 B.least, .int .i64 B.most, .slice a6 B.subs.length cap6]) rfl rfl Ty.slice27 Ty.zero29 rfl rfl rfl rfl rfl rfl (fun b2413 w2418 hb2414 hE2417 hs2415 hR2416 => ?_)
    have hts2413 := (NodesV.lit (n := 2) (ts := [A, B]) hR2416 (RowsL.cons (h2412.ext hE2417) (RowsL.cons ((h1001.ext hE1).ext hE2417) (RowsL.nil' _))) rfl rfl (by decide)).lt
    refine WL.nil (fun a_ ha => ?_)
    exact ⟨_, β, ha, hE2417, BExt.refl _ _, hbi.ext hE2417, ⟨_, _, rfl, (hts2413.dom (by intro k h1; refine ⟨trivial, ?_, h1.2⟩; replace h1 := h1.1; intro x hxm; have hi := hbi.hi x hxm; have lo := hbi.lo x hxm; (try dsimp only at h1); (repeat' first | (guard_hyp h1 : _ ∨ _; refine Or.elim h1 (fun h1 => ?_) (fun h1 => ?_)) | (guard_hyp h1 : _ ∧ _; have hx := h1.2; replace h1 := h1.1)) <;> first | contradiction | omega | exact hx.1 x hxm))⟩⟩
  · intro σ β w1 hE1 hbi hk
    have hz1 := hE1.size
    obtain ⟨_, hv2510, a2510, cap2510, rfl, hts2510⟩ := hk 3 (by kernel_rfl) _ _ rfl rfl
    have hts2510 := hts2510.lt
    have hlen2510 := hts2510.len
    refine ⟨[(59, .slice a2510 (([A, B]).length) cap2510)], (agree_cons (look_right rfl hv2510) (agree_nil _)), ?_⟩
    refine WL.call rfl rfl rfl Ty.ent10 (seq_ok _ _ _ _ ([A, B]) hts2510 (Nat.le_of_ble_eq_true rfl)) ?_
    rintro _ w2513 ⟨l2511, rfl, hr2511, hE2512⟩
    have hzhE2512 := hE2512.size
    refine ⟨_, rfl, ?_⟩
    have hn2511 := hr2511.lt
    obtain ⟨sl2511, rfl, hts2511⟩ := hn2511.opn
    obtain ⟨a2511, cap2511, rfl, hlen2511, -⟩ := hts2511.get
    refine WL.nil (fun a_ ha => ?_)
    exact ⟨_, β, ha, hE2512, BExt.refl _ _, hbi.ext hE2512, ⟨_, rfl, (hr2511.off0 hbi (fun k hk => Nat.le_trans hE1.size hk))⟩⟩
  · intro σ β w1 hE1 hbi hk
    have hz1 := hE1.size
    refine ⟨[], (agree_nil _), ?_⟩
    refine WL.load_box rfl rfl rfl (h1002.ext hE1) Ty.agg29 ?_
    refine WL.nil (fun a_ ha => ?_)
    exact ⟨_, β, ha, (Ext.refl _), BExt.refl _ _, hbi.ext (Ext.refl _), rfl⟩
  · intro σ β w1 hE1 hbi hk
    have hz1 := hE1.size
    obtain ⟨_, hv2710, l2710, rfl, hn2710⟩ := hk 4 (by kernel_rfl) _ _ rfl rfl
    have hn2710 := hn2710.lt
    obtain ⟨sl2710, rfl, hts2710⟩ := hn2710.opn
    obtain ⟨a2710, cap2710, rfl, hlen2710, -⟩ := hts2710.get
    obtain ⟨_, hv2711, rfl⟩ := hk 5 (by kernel_rfl) _ _ rfl rfl
    refine ⟨[(60, .agg #[.int .u8 (Nd.seq ([A, B])).kind, .int .u64 (Nd.seq ([A, B])).set.a, .int .u64 (Nd.seq ([A, B])).set.b, .int .u64 (Nd.seq ([A, B])).set.c, .int .u64 (Nd.seq ([A, B])).set.d, .int .i64 (Nd.seq ([A, B])).least, .int .i64 (Nd.seq ([A, B])).most, .slice a2710 (Nd.seq ([A, B])).subs.length cap2710]), (61, .agg #[.int .u8 C.kind, .int .u64 C.set.a, .int .u64 C.set.b, .int .u64 C.set.c, .int .u64 C.set.d, .int .i64 C.least, .int .i64 C.most, .slice a10 C.subs.length cap10])], (agree_cons (look_right rfl hv2710) (agree_cons (look_right rfl hv2711) (agree_nil _))), ?_⟩
    refine WL.buildSlice (vs := [.agg #[.int .u8 (Nd.seq ([A, B])).kind, .int .u64 (Nd.seq ([A, B])).set.a, .int .u64 (Nd.seq ([A, B])).set.b, .int .u64 (Nd.seq ([A, B])).set.c, .int .u64 (Nd.seq ([A, B])).set.d, .int .i64 (Nd.seq ([A, B])).least, .int .i64 (Nd.seq ([A, B])).most, .slice a2710 (Nd.seq ([A, B])).subs.length cap2710], .agg #[.int .u8 C.kind, .int .u64 C.set.a, .int .u64 C.set.b, .int .u64 C.set.c, .int .u64 C.set.d, .int .i64 C.least, .int .i64 C.most, .slice a10 C.subs.length cap10]]) (cells := [.int .u8 (Nd.seq ([A, B])).kind, .int .u64 (Nd.seq ([A, B])).set.a, .int .u64 (Nd.seq ([A, B])).set.b, .int .u64 (Nd.seq ([A, B])).set.c, .int .u64 (Nd.seq ([A, B])).set.d, .int .i64 (Nd.seq ([A, B])).least, .int .i64 (Nd.seq ([A, B])).most, .slice a2710 (Nd.seq ([A, B])).subs.length cap2710, .int .u8 C.kind, .int .u64 C.set.a, .int .u64 C.set.b, .int .u64 C.set.c, .int .u64 C.set.d, .int .i64 C.least, .int .i64 C.most, .slice a10 C.subs.length cap10]) rfl rfl Ty.slice27 Ty.zero29 rfl rfl rfl rfl rfl rfl (fun b2712 w2717 hb2713 hE2716 hs2714 hR2715 => ?_)
    have hts2712 := (NodesV.lit (n := 2) (ts := [(Nd.seq ([A, B])), C]) hR2715 (RowsL.cons (hn2710.ext hE2716) (RowsL.cons ((h1003.ext hE1).ext hE2716) (RowsL.nil' _))) rfl rfl (by decide)).lt
    refine WL.nil (fun a_ ha => ?_)
    exact ⟨_, β, ha, hE2716, BExt.refl _ _, hbi.ext hE2716, ⟨_, _, rfl, (hts2712.dom (by intro k h1; refine ⟨trivial, ?_, h1.2⟩; replace h1 := h1.1; intro x hxm; have hi := hbi.hi x hxm; have lo := hbi.lo x hxm; (try dsimp only at h1); (repeat' first | (guard_hyp h1 : _ ∨ _; refine Or.elim h1 (fun h1 => ?_) (fun h1 => ?_)) | (guard_hyp h1 : _ ∧ _; have hx := h1.2; replace h1 := h1.1)) <;> first | contradiction | omega | exact hx.1 x hxm))⟩⟩
  · intro σ β w1 hE1 hbi hk
    have hz1 := hE1.size
    obtain ⟨_, hv2810, a2810, cap2810, rfl, hts2810⟩ := hk 6 (by kernel_rfl) _ _ rfl rfl
    have hts2810 := hts2810.lt
    have hlen2810 := hts2810.len
    refine ⟨[(62, .slice a2810 (([(Nd.seq ([A, B])), C]).length) cap2810)], (agree_cons (look_right rfl hv2810) (agree_nil _)), ?_⟩
    refine WL.call rfl rfl rfl Ty.ent10 (seq_ok _ _ _ _ ([(Nd.seq ([A, B])), C]) hts2810 (Nat.le_of_ble_eq_true rfl)) ?_
    rintro _ w2813 ⟨l2811, rfl, hr2811, hE2812⟩
    have hzhE2812 := hE2812.size
    refine ⟨_, rfl, ?_⟩
    have hn2811 := hr2811.lt
    obtain ⟨sl2811, rfl, hts2811⟩ := hn2811.opn
    obtain ⟨a2811, cap2811, rfl, hlen2811, -⟩ := hts2811.get
    refine WL.nil (fun a_ ha => ?_)
    exact ⟨_, β, ha, hE2812, BExt.refl _ _, hbi.ext hE2812, ⟨_, rfl, (hr2811.off0 hbi (fun k hk => Nat.le_trans hE1.size hk))⟩⟩
  · intro σ β w1 hE1 hbi hk
    have hz1 := hE1.size
    obtain ⟨_, hv2910, rfl⟩ := hk 0 (by kernel_rfl) _ _ rfl rfl
    obtain ⟨_, hv2911, l2911, rfl, hn2911⟩ := hk 7 (by kernel_rfl) _ _ rfl rfl
    have hn2911 := hn2911.lt
    obtain ⟨sl2911, rfl, hts2911⟩ := hn2911.opn
    obtain ⟨a2911, cap2911, rfl, hlen2911, -⟩ := hts2911.get
    refine ⟨[(56, .agg #[.int .u8 (Nd.seq ([A, B, C])).kind, .int .u64 (Nd.seq ([A, B, C])).set.a, .int .u64 (Nd.seq ([A, B, C])).set.b, .int .u64 (Nd.seq ([A, B, C])).set.c, .int .u64 (Nd.seq ([A, B, C])).set.d, .int .i64 (Nd.seq ([A, B, C])).least, .int .i64 (Nd.seq ([A, B, C])).most, .slice a974 (Nd.seq ([A, B, C])).subs.length cap974]), (63, .agg #[.int .u8 (Nd.seq ([(Nd.seq ([A, B])), C])).kind, .int .u64 (Nd.seq ([(Nd.seq ([A, B])), C])).set.a, .int .u64 (Nd.seq ([(Nd.seq ([A, B])), C])).set.b, .int .u64 (Nd.seq ([(Nd.seq ([A, B])), C])).set.c, .int .u64 (Nd.seq ([(Nd.seq ([A, B])), C])).set.d, .int .i64 (Nd.seq ([(Nd.seq ([A, B])), C])).least, .int .i64 (Nd.seq ([(Nd.seq ([A, B])), C])).most, .slice a2911 (Nd.seq ([(Nd.seq ([A, B])), C])).subs.length cap2911])], (agree_cons (look_right rfl hv2910) (agree_cons (look_right rfl hv2911) (agree_nil _))), ?_⟩
    refine WL.call rfl rfl rfl Ty.ent14 (Same_ok _ _ _ _ _ (Nd.seq ([A, B, C])) (Nd.seq ([(Nd.seq ([A, B])), C])) (h998.ext hE1) hn2911) ?_
    rintro _ w2913 ⟨he, hE2912⟩
    have hq : (Nd.light (Nd.seq ([A, B, C])) && Nd.light (Nd.seq ([(Nd.seq ([A, B])), C])) && Nd.same (Nd.seq ([A, B, C])) (Nd.seq ([(Nd.seq ([A, B])), C]))) = true := (Nd.Same_eq' (Nd.seq_l hqA hqB hqC) hS.light)
    rw [hq] at he
    subst he
    clear hq
    have hzhE2912 := hE2912.size
    refine ⟨_, rfl, ?_⟩
    refine WL.nil (fun a_ ha => ?_)
    exact ⟨_, β, ha, hE2912, BExt.refl _ _, hbi.ext hE2912, rfl⟩
  · intro σ β w1 hE1 hbi hk
    have hz1 := hE1.size
    obtain ⟨_, hv3010, rfl⟩ := hk 8 (by kernel_rfl) _ _ rfl rfl
    refine ⟨[(64, .bool true)], (agree_cons (look_right rfl hv3010) (agree_nil _)), ?_⟩
    refine WL.not rfl rfl rfl ?_
    refine WL.nil (fun a_ ha => ?_)
    exact ⟨_, β, ha, (Ext.refl _), BExt.refl _ _, hbi.ext (Ext.refl _), rfl⟩
  · intro σ β w1 hE1 hbi hk
    have hz1 := hE1.size
    obtain ⟨_, hv3110, rfl⟩ := hk 9 (by kernel_rfl) _ _ rfl rfl
    refine ⟨[(65, .bool false)], (agree_cons (look_right rfl hv3110) (agree_nil _)), ?_⟩
    refine WL.move rfl rfl rfl ?_
    refine WL.nil (fun a_ ha => ?_)
    exact ⟨_, β, ha, (Ext.refl _), BExt.refl _ _, hbi.ext (Ext.refl _), rfl⟩
  · intro σ β w1 hE1 hbi hk
    have hz1 := hE1.size
    obtain ⟨_, hv3210, rfl⟩ := hk 10 (by kernel_rfl) _ _ rfl rfl
    refine ⟨[(66, .bool false)], (agree_cons (look_right rfl hv3210) (agree_nil _)), ?_⟩
    refine WL.load_box rfl rfl rfl (h1008.ext hE1) Ty.agg29 ?_
    refine WL.nil (fun a_ ha => ?_)
    exact ⟨_, β, ha, (Ext.refl _), BExt.refl _ _, hbi.ext (Ext.refl _), rfl⟩
  · intro σ β w1 hE1 hbi hk
    have hz1 := hE1.size
    obtain ⟨_, hv3310, rfl⟩ := hk 10 (by kernel_rfl) _ _ rfl rfl
    refine ⟨[(66, .bool false)], (agree_cons (look_right rfl hv3310) (agree_nil _)), ?_⟩
    have h3311 := ((h994.ext hE996).ext hE1)
    refine WL.load_box rfl rfl rfl h3311 Ty.agg29 ?_
    refine WL.nil (fun a_ ha => ?_)
    exact ⟨_, β, ha, (Ext.refl _), BExt.refl _ _, hbi.ext (Ext.refl _), rfl⟩
  · intro σ β w1 hE1 hbi hk
    have hz1 := hE1.size
    obtain ⟨_, hv3410, rfl⟩ := hk 10 (by kernel_rfl) _ _ rfl rfl
    refine ⟨[(66, .bool false)], (agree_cons (look_right rfl hv3410) (agree_nil _)), ?_⟩
    refine WL.load_box rfl rfl rfl (h1000.ext hE1) Ty.agg29 ?_
    refine WL.nil (fun a_ ha => ?_)
    exact ⟨_, β, ha, (Ext.refl _), BExt.refl _ _, hbi.ext (Ext.refl _), rfl⟩
  · intro σ β w1 hE1 hbi hk
    have hz1 := hE1.size
    obtain ⟨_, hv3510, rfl⟩ := hk 10 (by kernel_rfl) _ _ rfl rfl
    refine ⟨[(66, .bool false)], (agree_cons (look_right rfl hv3510) (agree_nil _)), ?_⟩
    refine WL.load_box rfl rfl rfl (h1002.ext hE1) Ty.agg29 ?_
    refine WL.nil (fun a_ ha => ?_)
    exact ⟨_, β, ha, (Ext.refl _), BExt.refl _ _, hbi.ext (Ext.refl _), rfl⟩
  · intro σ β w1 hE1 hbi hk
    have hz1 := hE1.size
    obtain ⟨_, hv3610, rfl⟩ := hk 10 (by kernel_rfl) _ _ rfl rfl
    obtain ⟨_, hv3611, rfl⟩ := hk 13 (by kernel_rfl) _ _ rfl rfl
    obtain ⟨_, hv3612, rfl⟩ := hk 14 (by kernel_rfl) _ _ rfl rfl
    refine ⟨[(66, .bool false), (69, .agg #[.int .u8 B.kind, .int .u64 B.set.a, .int .u64 B.set.b, .int .u64 B.set.c, .int .u64 B.set.d, .int .i64 B.least, .int .i64 B.most, .slice a6 B.subs.length cap6]), (70, .agg #[.int .u8 C.kind, .int .u64 C.set.a, .int .u64 C.set.b, .int .u64 C.set.c, .int .u64 C.set.d, .int .i64 C.least, .int .i64 C.most, .slice a10 C.subs.length cap10])], (agree_cons (look_right rfl hv3610) (agree_cons (look_right rfl hv3611) (agree_cons (look_right rfl hv3612) (agree_nil _)))), ?_⟩
    refine WL.buildSlice (vs := [.agg #[.int .u8 B.kind, .int .u64 B.set.a, .int .u64 B.set.b, .int .u64 B.set.c, .int .u64 B.set.d, .int .i64 B.least, .int .i64 B.most, .slice a6 B.subs.length cap6], .agg #[.int .u8 C.kind, .int .u64 C.set.a, .int .u64 C.set.b, .int .u64 C.set.c, .int .u64 C.set.d, .int .i64 C.least, .int .i64 C.most, .slice a10 C.subs.length cap10]]) (cells := [.int .u8 B.kind, .int .u64 B.set.a, .int .u64 B.set.b, .int .u64 B.set.c, .int .u64 B.set.d, .int .i64 B.least, .int .i64 B.most, .slice a6 B.subs.length cap6, .int .u8 C.kind, .int .u64 C.set.a, .int .u64 C.set.b, .int .u64 C.set.c, .int .u64 C.set.d, .int .i64 C.least, .int .i64 C.most, .slice a10 C.subs.length cap10]) rfl rfl Ty.slice27 Ty.zero29 rfl rfl rfl rfl rfl rfl (fun b3613 w3618 hb3614 hE3617 hs3615 hR3616 => ?_)
    have hts3613 := (NodesV.lit (n := 2) (ts := [B, C]) hR3616 (RowsL.cons ((h1001.ext hE1).ext hE3617) (RowsL.cons ((h1003.ext hE1).ext hE3617) (RowsL.nil' _))) rfl rfl (by decide)).lt
    refine WL.nil (fun a_ ha => ?_)
    exact ⟨_, β, ha, hE3617, BExt.refl _ _, hbi.ext hE3617, ⟨_, _, rfl, (hts3613.dom (by intro k h1; refine ⟨trivial, ?_, h1.2⟩; replace h1 := h1.1; intro x hxm; have hi := hbi.hi x hxm; have lo := hbi.lo x hxm; (try dsimp only at h1); (repeat' first | (guard_hyp h1 : _ ∨ _; refine Or.elim h1 (fun h1 => ?_) (fun h1 => ?_)) | (guard_hyp h1 : _ ∧ _; have hx := h1.2; replace h1 := h1.1)) <;> first | contradiction | omega | exact hx.1 x hxm))⟩⟩
  · intro σ β w1 hE1 hbi hk
    have hz1 := hE1.size
    obtain ⟨_, hv3710, rfl⟩ := hk 10 (by kernel_rfl) _ _ rfl rfl
    obtain ⟨_, hv3711, a3711, cap3711, rfl, hts3711⟩ := hk 15 (by kernel_rfl) _ _ rfl rfl
    have hts3711 := hts3711.lt
    have hlen3711 := hts3711.len
    refine ⟨[(66, .bool false), (71, .slice a3711 (([B, C]).length) cap3711)], (agree_cons (look_right rfl hv3710) (agree_cons (look_right rfl hv3711) (agree_nil _))), ?_⟩
    refine WL.call rfl rfl rfl Ty.ent10 (seq_ok _ _ _ _ ([B, C]) hts3711 (Nat.le_of_ble_eq_true rfl)) ?_
    rintro _ w3714 ⟨l3712, rfl, hr3712, hE3713⟩
    have hzhE3713 := hE3713.size
    refine ⟨_, rfl, ?_⟩
    have hn3712 := hr3712.lt
    obtain ⟨sl3712, rfl, hts3712⟩ := hn3712.opn
    obtain ⟨a3712, cap3712, rfl, hlen3712, -⟩ := hts3712.get
    refine WL.nil (fun a_ ha => ?_)
    exact ⟨_, β, ha, hE3713, BExt.refl _ _, hbi.ext hE3713, ⟨_, rfl, (hr3712.off0 hbi (fun k hk => Nat.le_trans hE1.size hk))⟩⟩
  · intro σ β w1 hE1 hbi hk
    have hz1 := hE1.size
    obtain ⟨_, hv3810, rfl⟩ := hk 10 (by kernel_rfl) _ _ rfl rfl
    obtain ⟨_, hv3811, rfl⟩ := hk 12 (by kernel_rfl) _ _ rfl rfl
    obtain ⟨_, hv3812, l3812, rfl, hn3812⟩ := hk 16 (by kernel_rfl) _ _ rfl rfl
    have hn3812 := hn3812.lt
    obtain ⟨sl3812, rfl, hts3812⟩ := hn3812.opn
    obtain ⟨a3812, cap3812, rfl, hlen3812, -⟩ := hts3812.get
    refine ⟨[(66, .bool false), (68, .agg #[.int .u8 A.kind, .int .u64 A.set.a, .int .u64 A.set.b, .int .u64 A.set.c, .int .u64 A.set.d, .int .i64 A.least, .int .i64 A.most, .slice a3 A.subs.length cap3]), (72, .agg #[.int .u8 (Nd.seq ([B, C])).kind, .int .u64 (Nd.seq ([B, C])).set.a, .int .u64 (Nd.seq ([B, C])).set.b, .int .u64 (Nd.seq ([B, C])).set.c, .int .u64 (Nd.seq ([B, C])).set.d, .int .i64 (Nd.seq ([B, C])).least, .int .i64 (Nd.seq ([B, C])).most, .slice a3812 (Nd.seq ([B, C])).subs.length cap3812])], (agree_cons (look_right rfl hv3810) (agree_cons (look_right rfl hv3811) (agree_cons (look_right rfl hv3812) (agree_nil _)))), ?_⟩
    have h3813 := ((h995.ext hE996).ext hE1)
    refine WL.buildSlice (vs := [.agg #[.int .u8 A.kind, .int .u64 A.set.a, .int .u64 A.set.b, .int .u64 A.set.c, .int .u64 A.set.d, .int .i64 A.least, .int .i64 A.most, .slice a3 A.subs.length cap3], .agg #[.int .u8 (Nd.seq ([B, C])).kind, .int .u64 (Nd.seq ([B, C])).set.a, .int .u64 (Nd.seq ([B, C])).set.b, .int .u64 (Nd.seq ([B, C])).set.c, .int .u64 (Nd.seq ([B, C])).set.d, .int .i64 (Nd.seq ([B, C])).least, .int .i64 (Nd.seq ([B, C])).most, .slice a3812 (Nd.seq ([B, C])).subs.length cap3812]]) (cells := [.int .u8 A.kind, .int .u64 A.set.a, .int .u64 A.set.b, .int .u64 A.set.c, .int .u64 A.set.d, .int .i64 A.least, .int .i64 A.most, .slice a3 A.subs.length cap3, .int .u8 (Nd.seq ([B, C])).kind, .int .u64 (Nd.seq ([B, C])).set.a, .int .u64 (Nd.seq ([B, C])).set.b, .int .u64 (Nd.seq ([B, C])).set.c, .int .u64 (Nd.seq ([B, C])).set.d, .int .i64 (Nd.seq ([B, C])).least, .int .i64 (Nd.seq ([B, C])).most, .slice a3812 (Nd.seq ([B, C])).subs.length cap3812]) rfl rfl Ty.slice27 Ty.zero29 rfl rfl rfl rfl rfl rfl (fun b3814 w3819 hb3815 hE3818 hs3816 hR3817 => ?_)
    have hts3814 := (NodesV.lit (n := 2) (ts := [A, (Nd.seq ([B, C]))]) hR3817 (RowsL.cons (h3813.ext hE3818) (RowsL.cons (hn3812.ext hE3818) (RowsL.nil' _))) rfl rfl (by decide)).lt
    refine WL.nil (fun a_ ha => ?_)
    exact ⟨_, β, ha, hE3818, BExt.refl _ _, hbi.ext hE3818, ⟨_, _, rfl, (hts3814.dom (by intro k h1; refine ⟨trivial, ?_, h1.2⟩; replace h1 := h1.1; intro x hxm; have hi := hbi.hi x hxm; have lo := hbi.lo x hxm; (try dsimp only at h1); (repeat' first | (guard_hyp h1 : _ ∨ _; refine Or.elim h1 (fun h1 => ?_) (fun h1 => ?_)) | (guard_hyp h1 : _ ∧ _; have hx := h1.2; replace h1 := h1.1)) <;> first | contradiction | omega | exact hx.1 x hxm))⟩⟩
  · intro σ β w1 hE1 hbi hk
    have hz1 := hE1.size
    obtain ⟨_, hv3910, rfl⟩ := hk 10 (by kernel_rfl) _ _ rfl rfl
    obtain ⟨_, hv3911, a3911, cap3911, rfl, hts3911⟩ := hk 17 (by kernel_rfl) _ _ rfl rfl
    have hts3911 := hts3911.lt
    have hlen3911 := hts3911.len
    refine ⟨[(66, .bool false), (73, .slice a3911 (([A, (Nd.seq ([B, C]))]).length) cap3911)], (agree_cons (look_right rfl hv3910) (agree_cons (look_right rfl hv3911) (agree_nil _))), ?_⟩
    refine WL.call rfl rfl rfl Ty.ent10 (seq_ok _ _ _ _ ([A, (Nd.seq ([B, C]))]) hts3911 (Nat.le_of_ble_eq_true rfl)) ?_
    rintro _ w3914 ⟨l3912, rfl, hr3912, hE3913⟩
    have hzhE3913 := hE3913.size
    refine ⟨_, rfl, ?_⟩
    have hn3912 := hr3912.lt
    obtain ⟨sl3912, rfl, hts3912⟩ := hn3912.opn
    obtain ⟨a3912, cap3912, rfl, hlen3912, -⟩ := hts3912.get
    refine WL.nil (fun a_ ha => ?_)
    exact ⟨_, β, ha, hE3913, BExt.refl _ _, hbi.ext hE3913, ⟨_, rfl, (hr3912.off0 hbi (fun k hk => Nat.le_trans hE1.size hk))⟩⟩
  · intro σ β w1 hE1 hbi hk
    have hz1 := hE1.size
    obtain ⟨_, hv4010, rfl⟩ := hk 10 (by kernel_rfl) _ _ rfl rfl
    obtain ⟨_, hv4011, rfl⟩ := hk 11 (by kernel_rfl) _ _ rfl rfl
    obtain ⟨_, hv4012, l4012, rfl, hn4012⟩ := hk 18 (by kernel_rfl) _ _ rfl rfl
    have hn4012 := hn4012.lt
    obtain ⟨sl4012, rfl, hts4012⟩ := hn4012.opn
    obtain ⟨a4012, cap4012, rfl, hlen4012, -⟩ := hts4012.get
    refine ⟨[(66, .bool false), (67, .agg #[.int .u8 (Nd.seq ([A, B, C])).kind, .int .u64 (Nd.seq ([A, B, C])).set.a, .int .u64 (Nd.seq ([A, B, C])).set.b, .int .u64 (Nd.seq ([A, B, C])).set.c, .int .u64 (Nd.seq ([A, B, C])).set.d, .int .i64 (Nd.seq ([A, B, C])).least, .int .i64 (Nd.seq ([A, B, C])).most, .slice a974 (Nd.seq ([A, B, C])).subs.length cap974]), (74, .agg #[.int .u8 (Nd.seq ([A, (Nd.seq ([B, C]))])).kind, .int .u64 (Nd.seq ([A, (Nd.seq ([B, C]))])).set.a, .int .u64 (Nd.seq ([A, (Nd.seq ([B, C]))])).set.b, .int .u64 (Nd.seq ([A, (Nd.seq ([B, C]))])).set.c, .int .u64 (Nd.seq ([A, (Nd.seq ([B, C]))])).set.d, .int .i64 (Nd.seq ([A, (Nd.seq ([B, C]))])).least, .int .i64 (Nd.seq ([A, (Nd.seq ([B, C]))])).most, .slice a4012 (Nd.seq ([A, (Nd.seq ([B, C]))])).subs.length cap4012])], (agree_cons (look_right rfl hv4010) (agree_cons (look_right rfl hv4011) (agree_cons (look_right rfl hv4012) (agree_nil _)))), ?_⟩
    refine WL.call rfl rfl rfl Ty.ent14 (Same_ok _ _ _ _ _ (Nd.seq ([A, B, C])) (Nd.seq ([A, (Nd.seq ([B, C]))])) (h998.ext hE1) hn4012) ?_
    rintro _ w4014 ⟨he, hE4013⟩
    have hq : (Nd.light (Nd.seq ([A, B, C])) && Nd.light (Nd.seq ([A, (Nd.seq ([B, C]))])) && Nd.same (Nd.seq ([A, B, C])) (Nd.seq ([A, (Nd.seq ([B, C]))]))) = true := (Nd.Same_eq' (Nd.seq_r hqA hqB hqC) hS.light)
    rw [hq] at he
    subst he
    clear hq
    have hzhE4013 := hE4013.size
    refine ⟨_, rfl, ?_⟩
    refine WL.nil (fun a_ ha => ?_)
    exact ⟨_, β, ha, hE4013, BExt.refl _ _, hbi.ext hE4013, rfl⟩
  · intro σ β w1 hE1 hbi hk
    have hz1 := hE1.size
    obtain ⟨_, hv4110, rfl⟩ := hk 10 (by kernel_rfl) _ _ rfl rfl
    obtain ⟨_, hv4111, rfl⟩ := hk 19 (by kernel_rfl) _ _ rfl rfl
    refine ⟨[(66, .bool false), (75, .bool true)], (agree_cons (look_right rfl hv4110) (agree_cons (look_right rfl hv4111) (agree_nil _))), ?_⟩
    refine WL.not rfl rfl rfl ?_
    refine WL.nil (fun a_ ha => ?_)
    exact ⟨_, β, ha, (Ext.refl _), BExt.refl _ _, hbi.ext (Ext.refl _), rfl⟩
  · intro σ β w1 hE1 hbi hk
    have hz1 := hE1.size
    obtain ⟨_, hv4210, rfl⟩ := hk 10 (by kernel_rfl) _ _ rfl rfl
    obtain ⟨_, hv4211, rfl⟩ := hk 20 (by kernel_rfl) _ _ rfl rfl
    refine ⟨[(66, .bool false), (76, .bool false)], (agree_cons (look_right rfl hv4210) (agree_cons (look_right rfl hv4211) (agree_nil _))), ?_⟩
    refine WL.pick_f rfl rfl rfl rfl ?_
    refine WL.nil (fun a_ ha => ?_)
    exact ⟨_, β, ha, (Ext.refl _), BExt.refl _ _, hbi.ext (Ext.refl _), rfl⟩
  · intro σ β w1 hE1 hbi hk
    have hz1 := hE1.size
    obtain ⟨_, hv4310, rfl⟩ := hk 21 (by kernel_rfl) _ _ rfl rfl
    refine ⟨[(77, .bool false)], (agree_cons (look_right rfl hv4310) (agree_nil _)), ?_⟩
    refine WL.move rfl rfl rfl ?_
    refine WL.nil (fun a_ ha => ?_)
    exact ⟨_, β, ha, (Ext.refl _), BExt.refl _ _, hbi.ext (Ext.refl _), rfl⟩
  · intro σ β w1 hE1 hbi hk
    have hz1 := hE1.size
    obtain ⟨_, hv4410, rfl⟩ := hk 22 (by kernel_rfl) _ _ rfl rfl
    refine ⟨[(78, .bool false)], (agree_cons (look_right rfl hv4410) (agree_nil _)), ?_⟩
    refine WL.load_box rfl rfl rfl (h1009.ext hE1) Ty.agg29 ?_
    refine WL.nil (fun a_ ha => ?_)
    exact ⟨_, β, ha, (Ext.refl _), BExt.refl _ _, hbi.ext (Ext.refl _), rfl⟩
  · intro σ β w1 hE1 hbi hk
    have hz1 := hE1.size
    obtain ⟨_, hv4510, rfl⟩ := hk 22 (by kernel_rfl) _ _ rfl rfl
    refine ⟨[(78, .bool false)], (agree_cons (look_right rfl hv4510) (agree_nil _)), ?_⟩
    have h4511 := ((h994.ext hE996).ext hE1)
    refine WL.load_box rfl rfl rfl h4511 Ty.agg29 ?_
    refine WL.nil (fun a_ ha => ?_)
    exact ⟨_, β, ha, (Ext.refl _), BExt.refl _ _, hbi.ext (Ext.refl _), rfl⟩
  · intro σ β w1 hE1 hbi hk
    have hz1 := hE1.size
    obtain ⟨_, hv4610, rfl⟩ := hk 22 (by kernel_rfl) _ _ rfl rfl
    refine ⟨[(78, .bool false)], (agree_cons (look_right rfl hv4610) (agree_nil _)), ?_⟩
    refine WL.load_box rfl rfl rfl (h1000.ext hE1) Ty.agg29 ?_
    refine WL.nil (fun a_ ha => ?_)
    exact ⟨_, β, ha, (Ext.refl _), BExt.refl _ _, hbi.ext (Ext.refl _), rfl⟩
  · intro σ β w1 hE1 hbi hk
    have hz1 := hE1.size
    obtain ⟨_, hv4710, rfl⟩ := hk 22 (by kernel_rfl) _ _ rfl rfl
    obtain ⟨_, hv4711, rfl⟩ := hk 24 (by kernel_rfl) _ _ rfl rfl
    obtain ⟨_, hv4712, rfl⟩ := hk 25 (by kernel_rfl) _ _ rfl rfl
    refine ⟨[(78, .bool false), (80, .agg #[.int .u8 A.kind, .int .u64 A.set.a, .int .u64 A.set.b, .int .u64 A.set.c, .int .u64 A.set.d, .int .i64 A.least, .int .i64 A.most, .slice a3 A.subs.length cap3]), (81, .agg #[.int .u8 B.kind, .int .u64 B.set.a, .int .u64 B.set.b, .int .u64 B.set.c, .int .u64 B.set.d, .int .i64 B.least, .int .i64 B.most, .slice a6 B.subs.length cap6])], (agree_cons (look_right rfl hv4710) (agree_cons (look_right rfl hv4711) (agree_cons (look_right rfl hv4712) (agree_nil _)))), ?_⟩
    have h4713 := ((h995.ext hE996).ext hE1)
    refine WL.buildSlice (vs := [.agg #[.int .u8 A.kind, .int .u64 A.set.a, .int .u64 A.set.b, .int .u64 A.set.c, .int .u64 A.set.d, .int .i64 A.least, .int .i64 A.most, .slice a3 A.subs.length cap3], .agg #[.int .u8 B.kind, .int .u64 B.set.a, .int .u64 B.set.b, .int .u64 B.set.c, .int .u64 B.set.d, .int .i64 B.least, .int .i64 B.most, .slice a6 B.subs.length cap6]]) (cells := [.int .u8 A.kind, .int .u64 A.set.a, .int .u64 A.set.b, .int .u64 A.set.c, .int .u64 A.set.d, .int .i64 A.least, .int .i64 A.most, .slice a3 A.subs.length cap3, .int .u8 B.kind, .int .u64 B.set.a, .int .u64 B.set.b, .int .u64 B.set.c, .int .u64 B.set.d, .int .i64 B.least, .int .i64 B.most, .slice a6 B.subs.length cap6]) rfl rfl Ty.slice27 Ty.zero29 rfl rfl rfl rfl rfl rfl (fun b4714 w4719 hb4715 hE4718 hs4716 hR4717 => ?_)
    have hts4714 := (NodesV.lit (n := 2) (ts := [A, B]) hR4717 (RowsL.cons (h4713.ext hE4718) (RowsL.cons ((h1001.ext hE1).ext hE4718) (RowsL.nil' _))) rfl rfl (by decide)).lt
    refine WL.nil (fun a_ ha => ?_)
    exact ⟨_, β, ha, hE4718, BExt.refl _ _, hbi.ext hE4718, ⟨_, _, rfl, (hts4714.dom (by intro k h1; refine ⟨trivial, ?_, h1.2⟩; replace h1 := h1.1; intro x hxm; have hi := hbi.hi x hxm; have lo := hbi.lo x hxm; (try dsimp only at h1); (repeat' first | (guard_hyp h1 : _ ∨ _; refine Or.elim h1 (fun h1 => ?_) (fun h1 => ?_)) | (guard_hyp h1 : _ ∧ _; have hx := h1.2; replace h1 := h1.1)) <;> first | contradiction | omega | exact hx.1 x hxm))⟩⟩
  · intro σ β w1 hE1 hbi hk
    have hz1 := hE1.size
    obtain ⟨_, hv4810, rfl⟩ := hk 22 (by kernel_rfl) _ _ rfl rfl
    obtain ⟨_, hv4811, a4811, cap4811, rfl, hts4811⟩ := hk 26 (by kernel_rfl) _ _ rfl rfl
    have hts4811 := hts4811.lt
    have hlen4811 := hts4811.len
    refine ⟨[(78, .bool false), (82, .slice a4811 (([A, B]).length) cap4811)], (agree_cons (look_right rfl hv4810) (agree_cons (look_right rfl hv4811) (agree_nil _))), ?_⟩
    refine WL.call rfl rfl rfl Ty.ent11 (or_ok _ _ _ _ ([A, B]) hts4811 (Nat.le_of_ble_eq_true rfl)) ?_
    rintro _ w4814 ⟨l4812, rfl, hr4812, hE4813⟩
    have hzhE4813 := hE4813.size
    refine ⟨_, rfl, ?_⟩
    have hn4812 := hr4812.lt
    obtain ⟨sl4812, rfl, hts4812⟩ := hn4812.opn
    obtain ⟨a4812, cap4812, rfl, hlen4812, -⟩ := hts4812.get
    refine WL.nil (fun a_ ha => ?_)
    exact ⟨_, β, ha, hE4813, BExt.refl _ _, hbi.ext hE4813, ⟨_, rfl, (hr4812.off0 hbi (fun k hk => Nat.le_trans hE1.size hk))⟩⟩
  · intro σ β w1 hE1 hbi hk
    have hz1 := hE1.size
    obtain ⟨_, hv4910, rfl⟩ := hk 22 (by kernel_rfl) _ _ rfl rfl
    refine ⟨[(78, .bool false)], (agree_cons (look_right rfl hv4910) (agree_nil _)), ?_⟩
    refine WL.load_box rfl rfl rfl (h1002.ext hE1) Ty.agg29 ?_
    refine WL.nil (fun a_ ha => ?_)
    exact ⟨_, β, ha, (Ext.refl _), BExt.refl _ _, hbi.ext (Ext.refl _), rfl⟩
  · intro σ β w1 hE1 hbi hk
    have hz1 := hE1.size
    obtain ⟨_, hv5010, rfl⟩ := hk 22 (by kernel_rfl) _ _ rfl rfl
    obtain ⟨_, hv5011, l5011, rfl, hn5011⟩ := hk 27 (by kernel_rfl) _ _ rfl rfl
    have hn5011 := hn5011.lt
    obtain ⟨sl5011, rfl, hts5011⟩ := hn5011.opn
    obtain ⟨a5011, cap5011, rfl, hlen5011, -⟩ := hts5011.get
    obtain ⟨_, hv5012, rfl⟩ := hk 28 (by kernel_rfl) _ _ rfl rfl
    refine ⟨[(78, .bool false), (83, .agg #[.int .u8 (Nd.or ([A, B])).kind, .int .u64 (Nd.or ([A, B])).set.a, .int .u64 (Nd.or ([A, B])).set.b, .int .u64 (Nd.or ([A, B])).set.c, .int .u64 (Nd.or ([A, B])).set.d, .int .i64 (Nd.or ([A, B])).least, .int .i64 (Nd.or ([A, B])).most, .slice a5011 (Nd.or ([A, B])).subs.length cap5011]), (84, .agg #[.int .u8 C.kind, .int .u64 C.set.a, .int .u64 C.set.b, .int .u64 C.set.c, .int .u64 C.set.d, .int .i64 C.least, .int .i64 C.most, .slice a10 C.subs.length cap10])], (agree_cons (look_right rfl hv5010) (agree_cons (look_right rfl hv5011) (agree_cons (look_right rfl hv5012) (agree_nil _)))), ?_⟩
    refine WL.buildSlice (vs := [.agg #[.int .u8 (Nd.or ([A, B])).kind, .int .u64 (Nd.or ([A, B])).set.a, .int .u64 (Nd.or ([A, B])).set.b, .int .u64 (Nd.or ([A, B])).set.c, .int .u64 (Nd.or ([A, B])).set.d, .int .i64 (Nd.or ([A, B])).least, .int .i64 (Nd.or ([A, B])).most, .slice a5011 (Nd.or ([A, B])).subs.length cap5011], .agg #[.int .u8 C.kind, .int .u64 C.set.a, .int .u64 C.set.b, .int .u64 C.set.c, .int .u64 C.set.d, .int .i64 C.least, .int .i64 C.most, .slice a10 C.subs.length cap10]]) (cells := [.int .u8 (Nd.or ([A, B])).kind, .int .u64 (Nd.or ([A, B])).set.a, .int .u64 (Nd.or ([A, B])).set.b, .int .u64 (Nd.or ([A, B])).set.c, .int .u64 (Nd.or ([A, B])).set.d, .int .i64 (Nd.or ([A, B])).least, .int .i64 (Nd.or ([A, B])).most, .slice a5011 (Nd.or ([A, B])).subs.length cap5011, .int .u8 C.kind, .int .u64 C.set.a, .int .u64 C.set.b, .int .u64 C.set.c, .int .u64 C.set.d, .int .i64 C.least, .int .i64 C.most, .slice a10 C.subs.length cap10]) rfl rfl Ty.slice27 Ty.zero29 rfl rfl rfl rfl rfl rfl (fun b5013 w5018 hb5014 hE5017 hs5015 hR5016 => ?_)
    have hts5013 := (NodesV.lit (n := 2) (ts := [(Nd.or ([A, B])), C]) hR5016 (RowsL.cons (hn5011.ext hE5017) (RowsL.cons ((h1003.ext hE1).ext hE5017) (RowsL.nil' _))) rfl rfl (by decide)).lt
    refine WL.nil (fun a_ ha => ?_)
    exact ⟨_, β, ha, hE5017, BExt.refl _ _, hbi.ext hE5017, ⟨_, _, rfl, (hts5013.dom (by intro k h1; refine ⟨trivial, ?_, h1.2⟩; replace h1 := h1.1; intro x hxm; have hi := hbi.hi x hxm; have lo := hbi.lo x hxm; (try dsimp only at h1); (repeat' first | (guard_hyp h1 : _ ∨ _; refine Or.elim h1 (fun h1 => ?_) (fun h1 => ?_)) | (guard_hyp h1 : _ ∧ _; have hx := h1.2; replace h1 := h1.1)) <;> first | contradiction | omega | exact hx.1 x hxm))⟩⟩
  · intro σ β w1 hE1 hbi hk
    have hz1 := hE1.size
    obtain ⟨_, hv5110, rfl⟩ := hk 22 (by kernel_rfl) _ _ rfl rfl
    obtain ⟨_, hv5111, a5111, cap5111, rfl, hts5111⟩ := hk 29 (by kernel_rfl) _ _ rfl rfl
    have hts5111 := hts5111.lt
    have hlen5111 := hts5111.len
    refine ⟨[(78, .bool false), (85, .slice a5111 (([(Nd.or ([A, B])), C]).length) cap5111)], (agree_cons (look_right rfl hv5110) (agree_cons (look_right rfl hv5111) (agree_nil _))), ?_⟩
    refine WL.call rfl rfl rfl Ty.ent11 (or_ok _ _ _ _ ([(Nd.or ([A, B])), C]) hts5111 (Nat.le_of_ble_eq_true rfl)) ?_
    rintro _ w5114 ⟨l5112, rfl, hr5112, hE5113⟩
    have hzhE5113 := hE5113.size
    refine ⟨_, rfl, ?_⟩
    have hn5112 := hr5112.lt
    obtain ⟨sl5112, rfl, hts5112⟩ := hn5112.opn
    obtain ⟨a5112, cap5112, rfl, hlen5112, -⟩ := hts5112.get
    refine WL.nil (fun a_ ha => ?_)
    exact ⟨_, β, ha, hE5113, BExt.refl _ _, hbi.ext hE5113, ⟨_, rfl, (hr5112.off0 hbi (fun k hk => Nat.le_trans hE1.size hk))⟩⟩
  · intro σ β w1 hE1 hbi hk
    have hz1 := hE1.size
    obtain ⟨_, hv5210, rfl⟩ := hk 22 (by kernel_rfl) _ _ rfl rfl
    obtain ⟨_, hv5211, rfl⟩ := hk 23 (by kernel_rfl) _ _ rfl rfl
    obtain ⟨_, hv5212, l5212, rfl, hn5212⟩ := hk 30 (by kernel_rfl) _ _ rfl rfl
    have hn5212 := hn5212.lt
    obtain ⟨sl5212, rfl, hts5212⟩ := hn5212.opn
    obtain ⟨a5212, cap5212, rfl, hlen5212, -⟩ := hts5212.get
    refine ⟨[(78, .bool false), (79, .agg #[.int .u8 (Nd.or ([A, B, C])).kind, .int .u64 (Nd.or ([A, B, C])).set.a, .int .u64 (Nd.or ([A, B, C])).set.b, .int .u64 (Nd.or ([A, B, C])).set.c, .int .u64 (Nd.or ([A, B, C])).set.d, .int .i64 (Nd.or ([A, B, C])).least, .int .i64 (Nd.or ([A, B, C])).most, .slice a975 (Nd.or ([A, B, C])).subs.length cap975]), (86, .agg #[.int .u8 (Nd.or ([(Nd.or ([A, B])), C])).kind, .int .u64 (Nd.or ([(Nd.or ([A, B])), C])).set.a, .int .u64 (Nd.or ([(Nd.or ([A, B])), C])).set.b, .int .u64 (Nd.or ([(Nd.or ([A, B])), C])).set.c, .int .u64 (Nd.or ([(Nd.or ([A, B])), C])).set.d, .int .i64 (Nd.or ([(Nd.or ([A, B])), C])).least, .int .i64 (Nd.or ([(Nd.or ([A, B])), C])).most, .slice a5212 (Nd.or ([(Nd.or ([A, B])), C])).subs.length cap5212])], (agree_cons (look_right rfl hv5210) (agree_cons (look_right rfl hv5211) (agree_cons (look_right rfl hv5212) (agree_nil _)))), ?_⟩
    refine WL.call rfl rfl rfl Ty.ent14 (Same_ok _ _ _ _ _ (Nd.or ([A, B, C])) (Nd.or ([(Nd.or ([A, B])), C])) (h999.ext hE1) hn5212) ?_
    rintro _ w5214 ⟨he, hE5213⟩
    have hq : (Nd.light (Nd.or ([A, B, C])) && Nd.light (Nd.or ([(Nd.or ([A, B])), C])) && Nd.same (Nd.or ([A, B, C])) (Nd.or ([(Nd.or ([A, B])), C]))) = true := (Nd.Same_eq' (Nd.or_l hqA hqB hqC) hO.light)
    rw [hq] at he
    subst he
    clear hq
    have hzhE5213 := hE5213.size
    refine ⟨_, rfl, ?_⟩
    refine WL.nil (fun a_ ha => ?_)
    exact ⟨_, β, ha, hE5213, BExt.refl _ _, hbi.ext hE5213, rfl⟩
  · intro σ β w1 hE1 hbi hk
    have hz1 := hE1.size
    obtain ⟨_, hv5310, rfl⟩ := hk 22 (by kernel_rfl) _ _ rfl rfl
    obtain ⟨_, hv5311, rfl⟩ := hk 31 (by kernel_rfl) _ _ rfl rfl
    refine ⟨[(78, .bool false), (87, .bool true)], (agree_cons (look_right rfl hv5310) (agree_cons (look_right rfl hv5311) (agree_nil _))), ?_⟩
    refine WL.not rfl rfl rfl ?_
    refine WL.nil (fun a_ ha => ?_)
    exact ⟨_, β, ha, (Ext.refl _), BExt.refl _ _, hbi.ext (Ext.refl _), rfl⟩
  · intro σ β w1 hE1 hbi hk
    have hz1 := hE1.size
    obtain ⟨_, hv5410, rfl⟩ := hk 22 (by kernel_rfl) _ _ rfl rfl
    obtain ⟨_, hv5411, rfl⟩ := hk 32 (by kernel_rfl) _ _ rfl rfl
    refine ⟨[(78, .bool false), (88, .bool false)], (agree_cons (look_right rfl hv5410) (agree_cons (look_right rfl hv5411) (agree_nil _))), ?_⟩
    refine WL.pick_f rfl rfl rfl rfl ?_
    refine WL.nil (fun a_ ha => ?_)
    exact ⟨_, β, ha, (Ext.refl _), BExt.refl _ _, hbi.ext (Ext.refl _), rfl⟩
  · intro σ β w1 hE1 hbi hk
    have hz1 := hE1.size
    obtain ⟨_, hv5510, rfl⟩ := hk 33 (by kernel_rfl) _ _ rfl rfl
    refine ⟨[(89, .bool false)], (agree_cons (look_right rfl hv5510) (agree_nil _)), ?_⟩
    refine WL.move rfl rfl rfl ?_
    refine WL.nil (fun a_ ha => ?_)
    exact ⟨_, β, ha, (Ext.refl _), BExt.refl _ _, hbi.ext (Ext.refl _), rfl⟩
  · intro σ β w1 hE1 hbi hk
    have hz1 := hE1.size
    obtain ⟨_, hv5610, rfl⟩ := hk 34 (by kernel_rfl) _ _ rfl rfl
    refine ⟨[(90, .bool false)], (agree_cons (look_right rfl hv5610) (agree_nil _)), ?_⟩
    refine WL.load_box rfl rfl rfl (h1009.ext hE1) Ty.agg29 ?_
    refine WL.nil (fun a_ ha => ?_)
    exact ⟨_, β, ha, (Ext.refl _), BExt.refl _ _, hbi.ext (Ext.refl _), rfl⟩
  · intro σ β w1 hE1 hbi hk
    have hz1 := hE1.size
    obtain ⟨_, hv5710, rfl⟩ := hk 34 (by kernel_rfl) _ _ rfl rfl
    refine ⟨[(90, .bool false)], (agree_cons (look_right rfl hv5710) (agree_nil _)), ?_⟩
    have h5711 := ((h994.ext hE996).ext hE1)
    refine WL.load_box rfl rfl rfl h5711 Ty.agg29 ?_
    refine WL.nil (fun a_ ha => ?_)
    exact ⟨_, β, ha, (Ext.refl _), BExt.refl _ _, hbi.ext (Ext.refl _), rfl⟩
  · intro σ β w1 hE1 hbi hk
    have hz1 := hE1.size
    obtain ⟨_, hv5810, rfl⟩ := hk 34 (by kernel_rfl) _ _ rfl rfl
    refine ⟨[(90, .bool false)], (agree_cons (look_right rfl hv5810) (agree_nil _)), ?_⟩
    refine WL.load_box rfl rfl rfl (h1000.ext hE1) Ty.agg29 ?_
    refine WL.nil (fun a_ ha => ?_)
    exact ⟨_, β, ha, (Ext.refl _), BExt.refl _ _, hbi.ext (Ext.refl _), rfl⟩
  · intro σ β w1 hE1 hbi hk
    have hz1 := hE1.size
    obtain ⟨_, hv5910, rfl⟩ := hk 34 (by kernel_rfl) _ _ rfl rfl
    refine ⟨[(90, .bool false)], (agree_cons (look_right rfl hv5910) (agree_nil _)), ?_⟩
    refine WL.load_box rfl rfl rfl (h1002.ext hE1) Ty.agg29 ?_
    refine WL.nil (fun a_ ha => ?_)
    exact ⟨_, β, ha, (Ext.refl _), BExt.refl _ _, hbi.ext (Ext.refl _), rfl⟩
  · intro σ β w1 hE1 hbi hk
    have hz1 := hE1.size
    obtain ⟨_, hv6010, rfl⟩ := hk 34 (by kernel_rfl) _ _ rfl rfl
    obtain ⟨_, hv6011, rfl⟩ := hk 37 (by kernel_rfl) _ _ rfl rfl
    obtain ⟨_, hv6012, rfl⟩ := hk 38 (by kernel_rfl) _ _ rfl rfl
    refine ⟨[(90, .bool false), (93, .agg #[.int .u8 B.kind, .int .u64 B.set.a, .int .u64 B.set.b, .int .u64 B.set.c, .int .u64 B.set.d, .int .i64 B.least, .int .i64 B.most, .slice a6 B.subs.length cap6]), (94, .agg #[.int .u8 C.kind, .int .u64 C.set.a, .int .u64 C.set.b, .int .u64 C.set.c, .int .u64 C.set.d, .int .i64 C.least, .int .i64 C.most, .slice a10 C.subs.length cap10])], (agree_cons (look_right rfl hv6010) (agree_cons (look_right rfl hv6011) (agree_cons (look_right rfl hv6012) (agree_nil _)))), ?_⟩
    refine WL.buildSlice (vs := [.agg #[.int .u8 B.kind, .int .u64 B.set.a, .int .u64 B.set.b, .int .u64 B.set.c, .int .u64 B.set.d, .int .i64 B.least, .int .i64 B.most, .slice a6 B.subs.length cap6], .agg #[.int .u8 C.kind, .int .u64 C.set.a, .int .u64 C.set.b, .int .u64 C.set.c, .int .u64 C.set.d, .int .i64 C.least, .int .i64 C.most, .slice a10 C.subs.length cap10]]) (cells := [.int .u8 B.kind, .int .u64 B.set.a, .int .u64 B.set.b, .int .u64 B.set.c, .int .u64 B.set.d, .int .i64 B.least, .int .i64 B.most, .slice a6 B.subs.length cap6, .int .u8 C.kind, .int .u64 C.set.a, .int .u64 C.set.b, .int .u64 C.set.c, .int .u64 C.set.d, .int .i64 C.least, .int .i64 C.most, .slice a10 C.subs.length cap10]) rfl rfl Ty.slice27 Ty.zero29 rfl rfl rfl rfl rfl rfl (fun b6013 w6018 hb6014 hE6017 hs6015 hR6016 => ?_)
    have hts6013 := (NodesV.lit (n := 2) (ts := [B, C]) hR6016 (RowsL.cons ((h1001.ext hE1).ext hE6017) (RowsL.cons ((h1003.ext hE1).ext hE6017) (RowsL.nil' _))) rfl rfl (by decide)).lt
    refine WL.nil (fun a_ ha => ?_)
    exact ⟨_, β, ha, hE6017, BExt.refl _ _, hbi.ext hE6017, ⟨_, _, rfl, (hts6013.dom (by intro k h1; refine ⟨trivial, ?_, h1.2⟩; replace h1 := h1.1; intro x hxm; have hi := hbi.hi x hxm; have lo := hbi.lo x hxm; (try dsimp only at h1); (repeat' first | (guard_hyp h1 : _ ∨ _; refine Or.elim h1 (fun h1 => ?_) (fun h1 => ?_)) | (guard_hyp h1 : _ ∧ _; have hx := h1.2; replace h1 := h1.1)) <;> first | contradiction | omega | exact hx.1 x hxm))⟩⟩
  · intro σ β w1 hE1 hbi hk
    have hz1 := hE1.size
    obtain ⟨_, hv6110, rfl⟩ := hk 34 (by kernel_rfl) _ _ rfl rfl
    obtain ⟨_, hv6111, a6111, cap6111, rfl, hts6111⟩ := hk 39 (by kernel_rfl) _ _ rfl rfl
    have hts6111 := hts6111.lt
    have hlen6111 := hts6111.len
    refine ⟨[(90, .bool false), (95, .slice a6111 (([B, C]).length) cap6111)], (agree_cons (look_right rfl hv6110) (agree_cons (look_right rfl hv6111) (agree_nil _))), ?_⟩
    refine WL.call rfl rfl rfl Ty.ent11 (or_ok _ _ _ _ ([B, C]) hts6111 (Nat.le_of_ble_eq_true rfl)) ?_
    rintro _ w6114 ⟨l6112, rfl, hr6112, hE6113⟩
    have hzhE6113 := hE6113.size
    refine ⟨_, rfl, ?_⟩
    have hn6112 := hr6112.lt
    obtain ⟨sl6112, rfl, hts6112⟩ := hn6112.opn
    obtain ⟨a6112, cap6112, rfl, hlen6112, -⟩ := hts6112.get
    refine WL.nil (fun a_ ha => ?_)
    exact ⟨_, β, ha, hE6113, BExt.refl _ _, hbi.ext hE6113, ⟨_, rfl, (hr6112.off0 hbi (fun k hk => Nat.le_trans hE1.size hk))⟩⟩
  · intro σ β w1 hE1 hbi hk
    have hz1 := hE1.size
    obtain ⟨_, hv6210, rfl⟩ := hk 34 (by kernel_rfl) _ _ rfl rfl
    obtain ⟨_, hv6211, rfl⟩ := hk 36 (by kernel_rfl) _ _ rfl rfl
    obtain ⟨_, hv6212, l6212, rfl, hn6212⟩ := hk 40 (by kernel_rfl) _ _ rfl rfl
    have hn6212 := hn6212.lt
    obtain ⟨sl6212, rfl, hts6212⟩ := hn6212.opn
    obtain ⟨a6212, cap6212, rfl, hlen6212, -⟩ := hts6212.get
    refine ⟨[(90, .bool false), (92, .agg #[.int .u8 A.kind, .int .u64 A.set.a, .int .u64 A.set.b, .int .u64 A.set.c, .int .u64 A.set.d, .int .i64 A.least, .int .i64 A.most, .slice a3 A.subs.length cap3]), (96, .agg #[.int .u8 (Nd.or ([B, C])).kind, .int .u64 (Nd.or ([B, C])).set.a, .int .u64 (Nd.or ([B, C])).set.b, .int .u64 (Nd.or ([B, C])).set.c, .int .u64 (Nd.or ([B, C])).set.d, .int .i64 (Nd.or ([B, C])).least, .int .i64 (Nd.or ([B, C])).most, .slice a6212 (Nd.or ([B, C])).subs.length cap6212])], (agree_cons (look_right rfl hv6210) (agree_cons (look_right rfl hv6211) (agree_cons (look_right rfl hv6212) (agree_nil _)))), ?_⟩
    have h6213 := ((h995.ext hE996).ext hE1)
    refine WL.buildSlice (vs := [.agg #[.int .u8 A.kind, .int .u64 A.set.a, .int .u64 A.set.b, .int .u64 A.set.c, .int .u64 A.set.d, .int .i64 A.least, .int .i64 A.most, .slice a3 A.subs.length cap3], .agg #[.int .u8 (Nd.or ([B, C])).kind, .int .u64 (Nd.or ([B, C])).set.a, .int .u64 (Nd.or ([B, C])).set.b, .int .u64 (Nd.or ([B, C])).set.c, .int .u64 (Nd.or ([B, C])).set.d, .int .i64 (Nd.or ([B, C])).least, .int .i64 (Nd.or ([B, C])).most, .slice a6212 (Nd.or ([B, C])).subs.length cap6212]]) (cells := [.int .u8 A.kind, .int .u64 A.set.a, .int .u64 A.set.b, .int .u64 A.set.c, .int .u64 A.set.d, .int .i64 A.least, .int .i64 A.most, .slice a3 A.subs.length cap3, .int .u8 (Nd.or ([B, C])).kind, .int .u64 (Nd.or ([B, C])).set.a, .int .u64 (Nd.or ([B, C])).set.b, .int .u64 (Nd.or ([B, C])).set.c, .int .u64 (Nd.or ([B, C])).set.d, .int .i64 (Nd.or ([B, C])).least, .int .i64 (Nd.or ([B, C])).most, .slice a6212 (Nd.or ([B, C])).subs.length cap6212]) rfl rfl Ty.slice27 Ty.zero29 rfl rfl rfl rfl rfl rfl (fun b6214 w6219 hb6215 hE6218 hs6216 hR6217 => ?_)
    have hts6214 := (NodesV.lit (n := 2) (ts := [A, (Nd.or ([B, C]))]) hR6217 (RowsL.cons (h6213.ext hE6218) (RowsL.cons (hn6212.ext hE6218) (RowsL.nil' _))) rfl rfl (by decide)).lt
    refine WL.nil (fun a_ ha => ?_)
    exact ⟨_, β, ha, hE6218, BExt.refl _ _, hbi.ext hE6218, ⟨_, _, rfl, (hts6214.dom (by intro k h1; refine ⟨trivial, ?_, h1.2⟩; replace h1 := h1.1; intro x hxm; have hi := hbi.hi x hxm; have lo := hbi.lo x hxm; (try dsimp only at h1); (repeat' first | (guard_hyp h1 : _ ∨ _; refine Or.elim h1 (fun h1 => ?_) (fun h1 => ?_)) | (guard_hyp h1 : _ ∧ _; have hx := h1.2; replace h1 := h1.1)) <;> first | contradiction | omega | exact hx.1 x hxm))⟩⟩
  · intro σ β w1 hE1 hbi hk
    have hz1 := hE1.size
    obtain ⟨_, hv6310, rfl⟩ := hk 34 (by kernel_rfl) _ _ rfl rfl
    obtain ⟨_, hv6311, a6311, cap6311, rfl, hts6311⟩ := hk 41 (by kernel_rfl) _ _ rfl rfl
    have hts6311 := hts6311.lt
    have hlen6311 := hts6311.len
    refine ⟨[(90, .bool false), (97, .slice a6311 (([A, (Nd.or ([B, C]))]).length) cap6311)], (agree_cons (look_right rfl hv6310) (agree_cons (look_right rfl hv6311) (agree_nil _))), ?_⟩
    refine WL.call rfl rfl rfl Ty.ent11 (or_ok _ _ _ _ ([A, (Nd.or ([B, C]))]) hts6311 (Nat.le_of_ble_eq_true rfl)) ?_
    rintro _ w6314 ⟨l6312, rfl, hr6312, hE6313⟩
    have hzhE6313 := hE6313.size
    refine ⟨_, rfl, ?_⟩
    have hn6312 := hr6312.lt
    obtain ⟨sl6312, rfl, hts6312⟩ := hn6312.opn
    obtain ⟨a6312, cap6312, rfl, hlen6312, -⟩ := hts6312.get
    refine WL.nil (fun a_ ha => ?_)
    exact ⟨_, β, ha, hE6313, BExt.refl _ _, hbi.ext hE6313, ⟨_, rfl, (hr6312.off0 hbi (fun k hk => Nat.le_trans hE1.size hk))⟩⟩
  · intro σ β w1 hE1 hbi hk
    have hz1 := hE1.size
    obtain ⟨_, hv6410, rfl⟩ := hk 34 (by kernel_rfl) _ _ rfl rfl
    obtain ⟨_, hv6411, rfl⟩ := hk 35 (by kernel_rfl) _ _ rfl rfl
    obtain ⟨_, hv6412, l6412, rfl, hn6412⟩ := hk 42 (by kernel_rfl) _ _ rfl rfl
    have hn6412 := hn6412.lt
    obtain ⟨sl6412, rfl, hts6412⟩ := hn6412.opn
    obtain ⟨a6412, cap6412, rfl, hlen6412, -⟩ := hts6412.get
    refine ⟨[(90, .bool false), (91, .agg #[.int .u8 (Nd.or ([A, B, C])).kind, .int .u64 (Nd.or ([A, B, C])).set.a, .int .u64 (Nd.or ([A, B, C])).set.b, .int .u64 (Nd.or ([A, B, C])).set.c, .int .u64 (Nd.or ([A, B, C])).set.d, .int .i64 (Nd.or ([A, B, C])).least, .int .i64 (Nd.or ([A, B, C])).most, .slice a975 (Nd.or ([A, B, C])).subs.length cap975]), (98, .agg #[.int .u8 (Nd.or ([A, (Nd.or ([B, C]))])).kind, .int .u64 (Nd.or ([A, (Nd.or ([B, C]))])).set.a, .int .u64 (Nd.or ([A, (Nd.or ([B, C]))])).set.b, .int .u64 (Nd.or ([A, (Nd.or ([B, C]))])).set.c, .int .u64 (Nd.or ([A, (Nd.or ([B, C]))])).set.d, .int .i64 (Nd.or ([A, (Nd.or ([B, C]))])).least, .int .i64 (Nd.or ([A, (Nd.or ([B, C]))])).most, .slice a6412 (Nd.or ([A, (Nd.or ([B, C]))])).subs.length cap6412])], (agree_cons (look_right rfl hv6410) (agree_cons (look_right rfl hv6411) (agree_cons (look_right rfl hv6412) (agree_nil _)))), ?_⟩
    refine WL.call rfl rfl rfl Ty.ent14 (Same_ok _ _ _ _ _ (Nd.or ([A, B, C])) (Nd.or ([A, (Nd.or ([B, C]))])) (h999.ext hE1) hn6412) ?_
    rintro _ w6414 ⟨he, hE6413⟩
    have hq : (Nd.light (Nd.or ([A, B, C])) && Nd.light (Nd.or ([A, (Nd.or ([B, C]))])) && Nd.same (Nd.or ([A, B, C])) (Nd.or ([A, (Nd.or ([B, C]))]))) = true := (Nd.Same_eq' (Nd.or_r hqA hqB hqC) hO.light)
    rw [hq] at he
    subst he
    clear hq
    have hzhE6413 := hE6413.size
    refine ⟨_, rfl, ?_⟩
    refine WL.nil (fun a_ ha => ?_)
    exact ⟨_, β, ha, hE6413, BExt.refl _ _, hbi.ext hE6413, rfl⟩
  · intro σ β w1 hE1 hbi hk
    have hz1 := hE1.size
    obtain ⟨_, hv6510, rfl⟩ := hk 34 (by kernel_rfl) _ _ rfl rfl
    obtain ⟨_, hv6511, rfl⟩ := hk 43 (by kernel_rfl) _ _ rfl rfl
    refine ⟨[(90, .bool false), (99, .bool true)], (agree_cons (look_right rfl hv6510) (agree_cons (look_right rfl hv6511) (agree_nil _))), ?_⟩
    refine WL.not rfl rfl rfl ?_
    refine WL.nil (fun a_ ha => ?_)
    exact ⟨_, β, ha, (Ext.refl _), BExt.refl _ _, hbi.ext (Ext.refl _), rfl⟩
  · intro σ β w1 hE1 hbi hk
    have hz1 := hE1.size
    obtain ⟨_, hv6610, rfl⟩ := hk 34 (by kernel_rfl) _ _ rfl rfl
    obtain ⟨_, hv6611, rfl⟩ := hk 44 (by kernel_rfl) _ _ rfl rfl
    refine ⟨[(90, .bool false), (100, .bool false)], (agree_cons (look_right rfl hv6610) (agree_cons (look_right rfl hv6611) (agree_nil _))), ?_⟩
    refine WL.pick_f rfl rfl rfl rfl ?_
    refine WL.nil (fun a_ ha => ?_)
    exact ⟨_, β, ha, (Ext.refl _), BExt.refl _ _, hbi.ext (Ext.refl _), rfl⟩
  · intro σ β w1 hE1 hbi hk
    have hz1 := hE1.size
    obtain ⟨_, hv6710, rfl⟩ := hk 45 (by kernel_rfl) _ _ rfl rfl
    refine ⟨[(101, .bool false)], (agree_cons (look_right rfl hv6710) (agree_nil _)), ?_⟩
    refine WL.move rfl rfl rfl ?_
    refine WL.nil (fun a_ ha => ?_)
    exact ⟨_, β, ha, (Ext.refl _), BExt.refl _ _, hbi.ext (Ext.refl _), rfl⟩
  · intro σ β w1 hE1 hbi hk
    have hz1 := hE1.size
    obtain ⟨_, hv6810, rfl⟩ := hk 46 (by kernel_rfl) _ _ rfl rfl
    refine ⟨[(102, .bool false)], (agree_cons (look_right rfl hv6810) (agree_nil _)), ?_⟩
    refine WL.load_box rfl rfl rfl (h1004.ext hE1) Ty.agg29 ?_
    refine WL.nil (fun a_ ha => ?_)
    exact ⟨_, β, ha, (Ext.refl _), BExt.refl _ _, hbi.ext (Ext.refl _), rfl⟩
  · intro σ β w1 hE1 hbi hk
    have hz1 := hE1.size
    obtain ⟨_, hv6910, rfl⟩ := hk 46 (by kernel_rfl) _ _ rfl rfl
    refine ⟨[(102, .bool false)], (agree_cons (look_right rfl hv6910) (agree_nil _)), ?_⟩
    have h6911 := ((h994.ext hE996).ext hE1)
    refine WL.load_box rfl rfl rfl h6911 Ty.agg29 ?_
    refine WL.nil (fun a_ ha => ?_)
    exact ⟨_, β, ha, (Ext.refl _), BExt.refl _ _, hbi.ext (Ext.refl _), rfl⟩
  · intro σ β w1 hE1 hbi hk
    have hz1 := hE1.size
    obtain ⟨_, hv7010, rfl⟩ := hk 46 (by kernel_rfl) _ _ rfl rfl
    refine ⟨[(102, .bool false)], (agree_cons (look_right rfl hv7010) (agree_nil _)), ?_⟩
    refine WL.load_box rfl rfl rfl (h1004.ext hE1) Ty.agg29 ?_
    refine WL.nil (fun a_ ha => ?_)
    exact ⟨_, β, ha, (Ext.refl _), BExt.refl _ _, hbi.ext (Ext.refl _), rfl⟩
  · intro σ β w1 hE1 hbi hk
    have hz1 := hE1.size
    obtain ⟨_, hv7110, rfl⟩ := hk 46 (by kernel_rfl) _ _ rfl rfl
    obtain ⟨_, hv7111, rfl⟩ := hk 47 (by kernel_rfl) _ _ rfl rfl
    obtain ⟨_, hv7112, rfl⟩ := hk 48 (by kernel_rfl) _ _ rfl rfl
    obtain ⟨_, hv7113, rfl⟩ := hk 49 (by kernel_rfl) _ _ rfl rfl
    refine ⟨[(102, .bool false), (103, .agg #[.int .u8 1, .int .u64 0, .int .u64 0, .int .u64 0, .int .u64 0, .int .i64 0, .int .i64 0, .slice none 0 0]), (104, .agg #[.int .u8 A.kind, .int .u64 A.set.a, .int .u64 A.set.b, .int .u64 A.set.c, .int .u64 A.set.d, .int .i64 A.least, .int .i64 A.most, .slice a3 A.subs.length cap3]), (105, .agg #[.int .u8 1, .int .u64 0, .int .u64 0, .int .u64 0, .int .u64 0, .int .i64 0, .int .i64 0, .slice none 0 0])], (agree_cons (look_right rfl hv7110) (agree_cons (look_right rfl hv7111) (agree_cons (look_right rfl hv7112) (agree_cons (look_right rfl hv7113) (agree_nil _))))), ?_⟩
    have h7114 := ((h995.ext hE996).ext hE1)
    refine WL.buildSlice (vs := [.agg #[.int .u8 1, .int .u64 0, .int .u64 0, .int .u64 0, .int .u64 0, .int .i64 0, .int .i64 0, .slice none 0 0], .agg #[.int .u8 A.kind, .int .u64 A.set.a, .int .u64 A.set.b, .int .u64 A.set.c, .int .u64 A.set.d, .int .i64 A.least, .int .i64 A.most, .slice a3 A.subs.length cap3], .agg #[.int .u8 1, .int .u64 0, .int .u64 0, .int .u64 0, .int .u64 0, .int .i64 0, .int .i64 0, .slice none 0 0]]) (cells := [.int .u8 1, .int .u64 0, .int .u64 0, .int .u64 0, .int .u64 0, .int .i64 0, .int .i64 0, .slice none 0 0, .int .u8 A.kind, .int .u64 A.set.a, .int .u64 A.set.b, .int .u64 A.set.c, .int .u64 A.set.d, .int .i64 A.least, .int .i64 A.most, .slice a3 A.subs.length cap3, .int .u8 1, .int .u64 0, .int .u64 0, .int .u64 0, .int .u64 0, .int .i64 0, .int .i64 0, .slice none 0 0]) rfl rfl Ty.slice27 Ty.zero29 rfl rfl rfl rfl rfl rfl (fun b7115 w7120 hb7116 hE7119 hs7117 hR7118 => ?_)
    have hts7115 := (NodesV.lit (n := 3) (ts := [(Nd.mk 1 Nd.zero 0 0 ([])), A, (Nd.mk 1 Nd.zero 0 0 ([]))]) hR7118 (RowsL.cons ((h1005.ext hE1).ext hE7119) (RowsL.cons (h7114.ext hE7119) (RowsL.cons ((h1005.ext hE1).ext hE7119) (RowsL.nil' _)))) rfl rfl (by decide)).lt
    refine WL.nil (fun a_ ha => ?_)
    exact ⟨_, β, ha, hE7119, BExt.refl _ _, hbi.ext hE7119, ⟨_, _, rfl, (hts7115.dom (by intro k h1; refine ⟨trivial, ?_, h1.2⟩; replace h1 := h1.1; intro x hxm; have hi := hbi.hi x hxm; have lo := hbi.lo x hxm; (try dsimp only at h1); (repeat' first | (guard_hyp h1 : _ ∨ _; refine Or.elim h1 (fun h1 => ?_) (fun h1 => ?_)) | (guard_hyp h1 : _ ∧ _; have hx := h1.2; replace h1 := h1.1)) <;> first | contradiction | omega | exact hx.1 x hxm))⟩⟩
  · intro σ β w1 hE1 hbi hk
    have hz1 := hE1.size
    obtain ⟨_, hv7210, rfl⟩ := hk 46 (by kernel_rfl) _ _ rfl rfl
    obtain ⟨_, hv7211, a7211, cap7211, rfl, hts7211⟩ := hk 50 (by kernel_rfl) _ _ rfl rfl
    have hts7211 := hts7211.lt
    have hlen7211 := hts7211.len
    refine ⟨[(102, .bool false), (106, .slice a7211 (([(Nd.mk 1 Nd.zero 0 0 ([])), A, (Nd.mk 1 Nd.zero 0 0 ([]))]).length) cap7211)], (agree_cons (look_right rfl hv7210) (agree_cons (look_right rfl hv7211) (agree_nil _))), ?_⟩
    refine WL.call rfl rfl rfl Ty.ent10 (seq_ok _ _ _ _ ([(Nd.mk 1 Nd.zero 0 0 ([])), A, (Nd.mk 1 Nd.zero 0 0 ([]))]) hts7211 (Nat.le_of_ble_eq_true rfl)) ?_
    rintro _ w7214 ⟨l7212, rfl, hr7212, hE7213⟩
    have hzhE7213 := hE7213.size
    refine ⟨_, rfl, ?_⟩
    have hn7212 := hr7212.lt
    obtain ⟨sl7212, rfl, hts7212⟩ := hn7212.opn
    obtain ⟨a7212, cap7212, rfl, hlen7212, -⟩ := hts7212.get
    refine WL.nil (fun a_ ha => ?_)
    exact ⟨_, β, ha, hE7213, BExt.refl _ _, hbi.ext hE7213, ⟨_, rfl, (hr7212.off0 hbi (fun k hk => Nat.le_trans hE1.size hk))⟩⟩
  · intro σ β w1 hE1 hbi hk
    have hz1 := hE1.size
    obtain ⟨_, hv7310, rfl⟩ := hk 46 (by kernel_rfl) _ _ rfl rfl
    refine ⟨[(102, .bool false)], (agree_cons (look_right rfl hv7310) (agree_nil _)), ?_⟩
    have h7311 := ((h994.ext hE996).ext hE1)
    refine WL.load_box rfl rfl rfl h7311 Ty.agg29 ?_
    refine WL.nil (fun a_ ha => ?_)
    exact ⟨_, β, ha, (Ext.refl _), BExt.refl _ _, hbi.ext (Ext.refl _), rfl⟩
  · intro σ β w1 hE1 hbi hk
    have hz1 := hE1.size
    obtain ⟨_, hv7410, rfl⟩ := hk 46 (by kernel_rfl) _ _ rfl rfl
    obtain ⟨_, hv7411, l7411, rfl, hn7411⟩ := hk 51 (by kernel_rfl) _ _ rfl rfl
    have hn7411 := hn7411.lt
    obtain ⟨sl7411, rfl, hts7411⟩ := hn7411.opn
    obtain ⟨a7411, cap7411, rfl, hlen7411, -⟩ := hts7411.get
    obtain ⟨_, hv7412, rfl⟩ := hk 52 (by kernel_rfl) _ _ rfl rfl
    refine ⟨[(102, .bool false), (107, .agg #[.int .u8 (Nd.seq ([(Nd.mk 1 Nd.zero 0 0 ([])), A, (Nd.mk 1 Nd.zero 0 0 ([]))])).kind, .int .u64 (Nd.seq ([(Nd.mk 1 Nd.zero 0 0 ([])), A, (Nd.mk 1 Nd.zero 0 0 ([]))])).set.a, .int .u64 (Nd.seq ([(Nd.mk 1 Nd.zero 0 0 ([])), A, (Nd.mk 1 Nd.zero 0 0 ([]))])).set.b, .int .u64 (Nd.seq ([(Nd.mk 1 Nd.zero 0 0 ([])), A, (Nd.mk 1 Nd.zero 0 0 ([]))])).set.c, .int .u64 (Nd.seq ([(Nd.mk 1 Nd.zero 0 0 ([])), A, (Nd.mk 1 Nd.zero 0 0 ([]))])).set.d, .int .i64 (Nd.seq ([(Nd.mk 1 Nd.zero 0 0 ([])), A, (Nd.mk 1 Nd.zero 0 0 ([]))])).least, .int .i64 (Nd.seq ([(Nd.mk 1 Nd.zero 0 0 ([])), A, (Nd.mk 1 Nd.zero 0 0 ([]))])).most, .slice a7411 (Nd.seq ([(Nd.mk 1 Nd.zero 0 0 ([])), A, (Nd.mk 1 Nd.zero 0 0 ([]))])).subs.length cap7411]), (108, .agg #[.int .u8 A.kind, .int .u64 A.set.a, .int .u64 A.set.b, .int .u64 A.set.c, .int .u64 A.set.d, .int .i64 A.least, .int .i64 A.most, .slice a3 A.subs.length cap3])], (agree_cons (look_right rfl hv7410) (agree_cons (look_right rfl hv7411) (agree_cons (look_right rfl hv7412) (agree_nil _)))), ?_⟩
    have h7413 := ((h995.ext hE996).ext hE1)
    refine WL.call rfl rfl rfl Ty.ent14 (Same_ok _ _ _ _ _ (Nd.seq ([(Nd.mk 1 Nd.zero 0 0 ([])), A, (Nd.mk 1 Nd.zero 0 0 ([]))])) A hn7411 h7413) ?_
    rintro _ w7415 ⟨he, hE7414⟩
    have hq : (Nd.light (Nd.seq ([(Nd.mk 1 Nd.zero 0 0 ([])), A, (Nd.mk 1 Nd.zero 0 0 ([]))])) && Nd.light A && Nd.same (Nd.seq ([(Nd.mk 1 Nd.zero 0 0 ([])), A, (Nd.mk 1 Nd.zero 0 0 ([]))])) A) = true := (Nd.Same_eq (Nd.seq_empty hqA) hfA.light)
    rw [hq] at he
    subst he
    clear hq
    have hzhE7414 := hE7414.size
    refine ⟨_, rfl, ?_⟩
    refine WL.nil (fun a_ ha => ?_)
    exact ⟨_, β, ha, hE7414, BExt.refl _ _, hbi.ext hE7414, rfl⟩
  · intro σ β w1 hE1 hbi hk
    have hz1 := hE1.size
    obtain ⟨_, hv7510, rfl⟩ := hk 46 (by kernel_rfl) _ _ rfl rfl
    obtain ⟨_, hv7511, rfl⟩ := hk 53 (by kernel_rfl) _ _ rfl rfl
    refine ⟨[(102, .bool false), (109, .bool true)], (agree_cons (look_right rfl hv7510) (agree_cons (look_right rfl hv7511) (agree_nil _))), ?_⟩
    refine WL.not rfl rfl rfl ?_
    refine WL.nil (fun a_ ha => ?_)
    exact ⟨_, β, ha, (Ext.refl _), BExt.refl _ _, hbi.ext (Ext.refl _), rfl⟩
  · intro σ β w1 hE1 hbi hk
    have hz1 := hE1.size
    obtain ⟨_, hv7610, rfl⟩ := hk 46 (by kernel_rfl) _ _ rfl rfl
    obtain ⟨_, hv7611, rfl⟩ := hk 54 (by kernel_rfl) _ _ rfl rfl
    refine ⟨[(102, .bool false), (110, .bool false)], (agree_cons (look_right rfl hv7610) (agree_cons (look_right rfl hv7611) (agree_nil _))), ?_⟩
    refine WL.pick_f rfl rfl rfl rfl ?_
    refine WL.nil (fun a_ ha => ?_)
    exact ⟨_, β, ha, (Ext.refl _), BExt.refl _ _, hbi.ext (Ext.refl _), rfl⟩
  · intro σ β w1 hE1 hbi hk
    have hz1 := hE1.size
    obtain ⟨_, hv7710, rfl⟩ := hk 55 (by kernel_rfl) _ _ rfl rfl
    refine ⟨[(111, .bool false)], (agree_cons (look_right rfl hv7710) (agree_nil _)), ?_⟩
    refine WL.move rfl rfl rfl ?_
    refine WL.nil (fun a_ ha => ?_)
    exact ⟨_, β, ha, (Ext.refl _), BExt.refl _ _, hbi.ext (Ext.refl _), rfl⟩
  · intro σ β w1 hE1 hbi hk
    have hz1 := hE1.size
    obtain ⟨_, hv7810, rfl⟩ := hk 56 (by kernel_rfl) _ _ rfl rfl
    refine ⟨[(112, .bool false)], (agree_cons (look_right rfl hv7810) (agree_nil _)), ?_⟩
    refine WL.load_box rfl rfl rfl (h1006.ext hE1) Ty.agg29 ?_
    refine WL.nil (fun a_ ha => ?_)
    exact ⟨_, β, ha, (Ext.refl _), BExt.refl _ _, hbi.ext (Ext.refl _), rfl⟩
  · intro σ β w1 hE1 hbi hk
    have hz1 := hE1.size
    obtain ⟨_, hv7910, rfl⟩ := hk 56 (by kernel_rfl) _ _ rfl rfl
    refine ⟨[(112, .bool false)], (agree_cons (look_right rfl hv7910) (agree_nil _)), ?_⟩
    have h7911 := ((h994.ext hE996).ext hE1)
    refine WL.load_box rfl rfl rfl h7911 Ty.agg29 ?_
    refine WL.nil (fun a_ ha => ?_)
    exact ⟨_, β, ha, (Ext.refl _), BExt.refl _ _, hbi.ext (Ext.refl _), rfl⟩
  · intro σ β w1 hE1 hbi hk
    have hz1 := hE1.size
    obtain ⟨_, hv8010, rfl⟩ := hk 56 (by kernel_rfl) _ _ rfl rfl
    obtain ⟨_, hv8011, rfl⟩ := hk 57 (by kernel_rfl) _ _ rfl rfl
    obtain ⟨_, hv8012, rfl⟩ := hk 58 (by kernel_rfl) _ _ rfl rfl
    refine ⟨[(112, .bool false), (113, .agg #[.int .u8 0, .int .u64 0, .int .u64 0, .int .u64 0, .int .u64 0, .int .i64 0, .int .i64 0, .slice none 0 0]), (114, .agg #[.int .u8 A.kind, .int .u64 A.set.a, .int .u64 A.set.b, .int .u64 A.set.c, .int .u64 A.set.d, .int .i64 A.least, .int .i64 A.most, .slice a3 A.subs.length cap3])], (agree_cons (look_right rfl hv8010) (agree_cons (look_right rfl hv8011) (agree_cons (look_right rfl hv8012) (agree_nil _)))), ?_⟩
    have h8013 := ((h995.ext hE996).ext hE1)
    refine WL.buildSlice (vs := [.agg #[.int .u8 0, .int .u64 0, .int .u64 0, .int .u64 0, .int .u64 0, .int .i64 0, .int .i64 0, .slice none 0 0], .agg #[.int .u8 A.kind, .int .u64 A.set.a, .int .u64 A.set.b, .int .u64 A.set.c, .int .u64 A.set.d, .int .i64 A.least, .int .i64 A.most, .slice a3 A.subs.length cap3]]) (cells := [.int .u8 0, .int .u64 0, .int .u64 0, .int .u64 0, .int .u64 0, .int .i64 0, .int .i64 0, .slice none 0 0, .int .u8 A.kind, .int .u64 A.set.a, .int .u64 A.set.b, .int .u64 A.set.c, .int .u64 A.set.d, .int .i64 A.least, .int .i64 A.most, .slice a3 A.subs.length cap3]) rfl rfl Ty.slice27 Ty.zero29 rfl rfl rfl rfl rfl rfl (fun b8014 w8019 hb8015 hE8018 hs8016 hR8017 => ?_)
    have hts8014 := (NodesV.lit (n := 2) (ts := [(Nd.mk 0 Nd.zero 0 0 ([])), A]) hR8017 (RowsL.cons ((h1007.ext hE1).ext hE8018) (RowsL.cons (h8013.ext hE8018) (RowsL.nil' _))) rfl rfl (by decide)).lt
    refine WL.nil (fun a_ ha => ?_)
    exact ⟨_, β, ha, hE8018, BExt.refl _ _, hbi.ext hE8018, ⟨_, _, rfl, (hts8014.dom (by intro k h1; refine ⟨trivial, ?_, h1.2⟩; replace h1 := h1.1; intro x hxm; have hi := hbi.hi x hxm; have lo := hbi.lo x hxm; (try dsimp only at h1); (repeat' first | (guard_hyp h1 : _ ∨ _; refine Or.elim h1 (fun h1 => ?_) (fun h1 => ?_)) | (guard_hyp h1 : _ ∧ _; have hx := h1.2; replace h1 := h1.1)) <;> first | contradiction | omega | exact hx.1 x hxm))⟩⟩
  · intro σ β w1 hE1 hbi hk
    have hz1 := hE1.size
    obtain ⟨_, hv8110, rfl⟩ := hk 56 (by kernel_rfl) _ _ rfl rfl
    obtain ⟨_, hv8111, a8111, cap8111, rfl, hts8111⟩ := hk 59 (by kernel_rfl) _ _ rfl rfl
    have hts8111 := hts8111.lt
    have hlen8111 := hts8111.len
    refine ⟨[(112, .bool false), (115, .slice a8111 (([(Nd.mk 0 Nd.zero 0 0 ([])), A]).length) cap8111)], (agree_cons (look_right rfl hv8110) (agree_cons (look_right rfl hv8111) (agree_nil _))), ?_⟩
    refine WL.call rfl rfl rfl Ty.ent11 (or_ok _ _ _ _ ([(Nd.mk 0 Nd.zero 0 0 ([])), A]) hts8111 (Nat.le_of_ble_eq_true rfl)) ?_
    rintro _ w8114 ⟨l8112, rfl, hr8112, hE8113⟩
    have hzhE8113 := hE8113.size
    refine ⟨_, rfl, ?_⟩
    have hn8112 := hr8112.lt
    obtain ⟨sl8112, rfl, hts8112⟩ := hn8112.opn
    obtain ⟨a8112, cap8112, rfl, hlen8112, -⟩ := hts8112.get
    refine WL.nil (fun a_ ha => ?_)
    exact ⟨_, β, ha, hE8113, BExt.refl _ _, hbi.ext hE8113, ⟨_, rfl, (hr8112.off0 hbi (fun k hk => Nat.le_trans hE1.size hk))⟩⟩
  · intro σ β w1 hE1 hbi hk
    have hz1 := hE1.size
    obtain ⟨_, hv8210, rfl⟩ := hk 56 (by kernel_rfl) _ _ rfl rfl
    refine ⟨[(112, .bool false)], (agree_cons (look_right rfl hv8210) (agree_nil _)), ?_⟩
    have h8211 := ((h994.ext hE996).ext hE1)
    refine WL.load_box rfl rfl rfl h8211 Ty.agg29 ?_
    refine WL.nil (fun a_ ha => ?_)
    exact ⟨_, β, ha, (Ext.refl _), BExt.refl _ _, hbi.ext (Ext.refl _), rfl⟩
  · intro σ β w1 hE1 hbi hk
    have hz1 := hE1.size
    obtain ⟨_, hv8310, rfl⟩ := hk 56 (by kernel_rfl) _ _ rfl rfl
    obtain ⟨_, hv8311, l8311, rfl, hn8311⟩ := hk 60 (by kernel_rfl) _ _ rfl rfl
    have hn8311 := hn8311.lt
    obtain ⟨sl8311, rfl, hts8311⟩ := hn8311.opn
    obtain ⟨a8311, cap8311, rfl, hlen8311, -⟩ := hts8311.get
    obtain ⟨_, hv8312, rfl⟩ := hk 61 (by kernel_rfl) _ _ rfl rfl
    refine ⟨[(112, .bool false), (116, .agg #[.int .u8 (Nd.or ([(Nd.mk 0 Nd.zero 0 0 ([])), A])).kind, .int .u64 (Nd.or ([(Nd.mk 0 Nd.zero 0 0 ([])), A])).set.a, .int .u64 (Nd.or ([(Nd.mk 0 Nd.zero 0 0 ([])), A])).set.b, .int .u64 (Nd.or ([(Nd.mk 0 Nd.zero 0 0 ([])), A])).set.c, .int .u64 (Nd.or ([(Nd.mk 0 Nd.zero 0 0 ([])), A])).set.d, .int .i64 (Nd.or ([(Nd.mk 0 Nd.zero 0 0 ([])), A])).least, .int .i64 (Nd.or ([(Nd.mk 0 Nd.zero 0 0 ([])), A])).most, .slice a8311 (Nd.or ([(Nd.mk 0 Nd.zero 0 0 ([])), A])).subs.length cap8311]), (117, .agg #[.int .u8 A.kind, .int .u64 A.set.a, .int .u64 A.set.b, .int .u64 A.set.c, .int .u64 A.set.d, .int .i64 A.least, .int .i64 A.most, .slice a3 A.subs.length cap3])], (agree_cons (look_right rfl hv8310) (agree_cons (look_right rfl hv8311) (agree_cons (look_right rfl hv8312) (agree_nil _)))), ?_⟩
    have h8313 := ((h995.ext hE996).ext hE1)
    refine WL.call rfl rfl rfl Ty.ent14 (Same_ok _ _ _ _ _ (Nd.or ([(Nd.mk 0 Nd.zero 0 0 ([])), A])) A hn8311 h8313) ?_
    rintro _ w8315 ⟨he, hE8314⟩
    have hq : (Nd.light (Nd.or ([(Nd.mk 0 Nd.zero 0 0 ([])), A])) && Nd.light A && Nd.same (Nd.or ([(Nd.mk 0 Nd.zero 0 0 ([])), A])) A) = true := (Nd.Same_eq (Nd.or_none hqA) hfA.light)
    rw [hq] at he
    subst he
    clear hq
    have hzhE8314 := hE8314.size
    refine ⟨_, rfl, ?_⟩
    refine WL.nil (fun a_ ha => ?_)
    exact ⟨_, β, ha, hE8314, BExt.refl _ _, hbi.ext hE8314, rfl⟩
  · intro σ β w1 hE1 hbi hk
    have hz1 := hE1.size
    obtain ⟨_, hv8410, rfl⟩ := hk 56 (by kernel_rfl) _ _ rfl rfl
    obtain ⟨_, hv8411, rfl⟩ := hk 62 (by kernel_rfl) _ _ rfl rfl
    refine ⟨[(112, .bool false), (118, .bool true)], (agree_cons (look_right rfl hv8410) (agree_cons (look_right rfl hv8411) (agree_nil _))), ?_⟩
    refine WL.not rfl rfl rfl ?_
    refine WL.nil (fun a_ ha => ?_)
    exact ⟨_, β, ha, (Ext.refl _), BExt.refl _ _, hbi.ext (Ext.refl _), rfl⟩
  · intro σ β w1 hE1 hbi hk
    have hz1 := hE1.size
    obtain ⟨_, hv8510, rfl⟩ := hk 56 (by kernel_rfl) _ _ rfl rfl
    obtain ⟨_, hv8511, rfl⟩ := hk 63 (by kernel_rfl) _ _ rfl rfl
    refine ⟨[(112, .bool false), (119, .bool false)], (agree_cons (look_right rfl hv8510) (agree_cons (look_right rfl hv8511) (agree_nil _))), ?_⟩
    refine WL.pick_f rfl rfl rfl rfl ?_
    refine WL.nil (fun a_ ha => ?_)
    exact ⟨_, β, ha, (Ext.refl _), BExt.refl _ _, hbi.ext (Ext.refl _), rfl⟩
  · intro σ β w1 hE1 hbi hk
    have hz1 := hE1.size
    obtain ⟨_, hv8610, rfl⟩ := hk 64 (by kernel_rfl) _ _ rfl rfl
    refine ⟨[(120, .bool false)], (agree_cons (look_right rfl hv8610) (agree_nil _)), ?_⟩
    refine WL.move rfl rfl rfl ?_
    refine WL.nil (fun a_ ha => ?_)
    exact ⟨_, β, ha, (Ext.refl _), BExt.refl _ _, hbi.ext (Ext.refl _), rfl⟩
  · intro σ β w1 hE1 hbi hk
    have hz1 := hE1.size
    obtain ⟨_, hv8710, rfl⟩ := hk 65 (by kernel_rfl) _ _ rfl rfl
    refine ⟨[(121, .bool false)], (agree_cons (look_right rfl hv8710) (agree_nil _)), ?_⟩
    have h8711 := ((h994.ext hE996).ext hE1)
    refine WL.load_box rfl rfl rfl h8711 Ty.agg29 ?_
    refine WL.nil (fun a_ ha => ?_)
    exact ⟨_, β, ha, (Ext.refl _), BExt.refl _ _, hbi.ext (Ext.refl _), rfl⟩
  · intro σ β w1 hE1 hbi hk
    have hz1 := hE1.size
    obtain ⟨_, hv8810, rfl⟩ := hk 65 (by kernel_rfl) _ _ rfl rfl
    refine ⟨[(121, .bool false)], (agree_cons (look_right rfl hv8810) (agree_nil _)), ?_⟩
    refine WL.load_box rfl rfl rfl (h1006.ext hE1) Ty.agg29 ?_
    refine WL.nil (fun a_ ha => ?_)
    exact ⟨_, β, ha, (Ext.refl _), BExt.refl _ _, hbi.ext (Ext.refl _), rfl⟩
  · intro σ β w1 hE1 hbi hk
    have hz1 := hE1.size
    obtain ⟨_, hv8910, rfl⟩ := hk 65 (by kernel_rfl) _ _ rfl rfl
    refine ⟨[(121, .bool false)], (agree_cons (look_right rfl hv8910) (agree_nil _)), ?_⟩
    refine WL.load_box rfl rfl rfl (h1000.ext hE1) Ty.agg29 ?_
    refine WL.nil (fun a_ ha => ?_)
    exact ⟨_, β, ha, (Ext.refl _), BExt.refl _ _, hbi.ext (Ext.refl _), rfl⟩
  · intro σ β w1 hE1 hbi hk
    have hz1 := hE1.size
    obtain ⟨_, hv9010, rfl⟩ := hk 65 (by kernel_rfl) _ _ rfl rfl
    obtain ⟨_, hv9011, rfl⟩ := hk 66 (by kernel_rfl) _ _ rfl rfl
    obtain ⟨_, hv9012, rfl⟩ := hk 67 (by kernel_rfl) _ _ rfl rfl
    obtain ⟨_, hv9013, rfl⟩ := hk 68 (by kernel_rfl) _ _ rfl rfl
    refine ⟨[(121, .bool false), (122, .agg #[.int .u8 A.kind, .int .u64 A.set.a, .int .u64 A.set.b, .int .u64 A.set.c, .int .u64 A.set.d, .int .i64 A.least, .int .i64 A.most, .slice a3 A.subs.length cap3]), (123, .agg #[.int .u8 0, .int .u64 0, .int .u64 0, .int .u64 0, .int .u64 0, .int .i64 0, .int .i64 0, .slice none 0 0]), (124, .agg #[.int .u8 B.kind, .int .u64 B.set.a, .int .u64 B.set.b, .int .u64 B.set.c, .int .u64 B.set.d, .int .i64 B.least, .int .i64 B.most, .slice a6 B.subs.length cap6])], (agree_cons (look_right rfl hv9010) (agree_cons (look_right rfl hv9011) (agree_cons (look_right rfl hv9012) (agree_cons (look_right rfl hv9013) (agree_nil _))))), ?_⟩
    have h9014 := ((h995.ext hE996).ext hE1)
    refine WL.buildSlice (vs := [.agg #[.int .u8 A.kind, .int .u64 A.set.a, .int .u64 A.set.b, .int .u64 A.set.c, .int .u64 A.set.d, .int .i64 A.least, .int .i64 A.most, .slice a3 A.subs.length cap3], .agg #[.int .u8 0, .int .u64 0, .int .u64 0, .int .u64 0, .int .u64 0, .int .i64 0, .int .i64 0, .slice none 0 0], .agg #[.int .u8 B.kind, .int .u64 B.set.a, .int .u64 B.set.b, .int .u64 B.set.c, .int .u64 B.set.d, .int .i64 B.least, .int .i64 B.most, .slice a6 B.subs.length cap6]]) (cells := [.int .u8 A.kind, .int .u64 A.set.a, .int .u64 A.set.b, .int .u64 A.set.c, .int .u64 A.set.d, .int .i64 A.least, .int .i64 A.most, .slice a3 A.subs.length cap3, .int .u8 0, .int .u64 0, .int .u64 0, .int .u64 0, .int .u64 0, .int .i64 0, .int .i64 0, .slice none 0 0, .int .u8 B.kind, .int .u64 B.set.a, .int .u64 B.set.b, .int .u64 B.set.c, .int .u64 B.set.d, .int .i64 B.least, .int .i64 B.most, .slice a6 B.subs.length cap6]) rfl rfl Ty.slice27 Ty.zero29 rfl rfl rfl rfl rfl rfl (fun b9015 w9020 hb9016 hE9019 hs9017 hR9018 => ?_)
    have hts9015 := (NodesV.lit (n := 3) (ts := [A, (Nd.mk 0 Nd.zero 0 0 ([])), B]) hR9018 (RowsL.cons (h9014.ext hE9019) (RowsL.cons ((h1007.ext hE1).ext hE9019) (RowsL.cons ((h1001.ext hE1).ext hE9019) (RowsL.nil' _)))) rfl rfl (by decide)).lt
    refine WL.nil (fun a_ ha => ?_)
    exact ⟨_, β, ha, hE9019, BExt.refl _ _, hbi.ext hE9019, ⟨_, _, rfl, (hts9015.dom (by intro k h1; refine ⟨trivial, ?_, h1.2⟩; replace h1 := h1.1; intro x hxm; have hi := hbi.hi x hxm; have lo := hbi.lo x hxm; (try dsimp only at h1); (repeat' first | (guard_hyp h1 : _ ∨ _; refine Or.elim h1 (fun h1 => ?_) (fun h1 => ?_)) | (guard_hyp h1 : _ ∧ _; have hx := h1.2; replace h1 := h1.1)) <;> first | contradiction | omega | exact hx.1 x hxm))⟩⟩
  · intro σ β w1 hE1 hbi hk
    have hz1 := hE1.size
    obtain ⟨_, hv9110, rfl⟩ := hk 65 (by kernel_rfl) _ _ rfl rfl
    obtain ⟨_, hv9111, a9111, cap9111, rfl, hts9111⟩ := hk 69 (by kernel_rfl) _ _ rfl rfl
    have hts9111 := hts9111.lt
    have hlen9111 := hts9111.len
    refine ⟨[(121, .bool false), (125, .slice a9111 (([A, (Nd.mk 0 Nd.zero 0 0 ([])), B]).length) cap9111)], (agree_cons (look_right rfl hv9110) (agree_cons (look_right rfl hv9111) (agree_nil _))), ?_⟩
    refine WL.call rfl rfl rfl Ty.ent10 (seq_ok _ _ _ _ ([A, (Nd.mk 0 Nd.zero 0 0 ([])), B]) hts9111 (Nat.le_of_ble_eq_true rfl)) ?_
    rintro _ w9114 ⟨l9112, rfl, hr9112, hE9113⟩
    have hzhE9113 := hE9113.size
    refine ⟨_, rfl, ?_⟩
    have hn9112 := hr9112.lt
    obtain ⟨sl9112, rfl, hts9112⟩ := hn9112.opn
    obtain ⟨a9112, cap9112, rfl, hlen9112, -⟩ := hts9112.get
    refine WL.nil (fun a_ ha => ?_)
    exact ⟨_, β, ha, hE9113, BExt.refl _ _, hbi.ext hE9113, ⟨_, rfl, (hr9112.off0 hbi (fun k hk => Nat.le_trans hE1.size hk))⟩⟩
  · intro σ β w1 hE1 hbi hk
    have hz1 := hE1.size
    obtain ⟨_, hv9210, rfl⟩ := hk 65 (by kernel_rfl) _ _ rfl rfl
    obtain ⟨_, hv9211, l9211, rfl, hn9211⟩ := hk 70 (by kernel_rfl) _ _ rfl rfl
    have hn9211 := hn9211.lt
    obtain ⟨sl9211, rfl, hts9211⟩ := hn9211.opn
    obtain ⟨a9211, cap9211, rfl, hlen9211, -⟩ := hts9211.get
    refine ⟨[(121, .bool false), (126, .agg #[.int .u8 (Nd.seq ([A, (Nd.mk 0 Nd.zero 0 0 ([])), B])).kind, .int .u64 (Nd.seq ([A, (Nd.mk 0 Nd.zero 0 0 ([])), B])).set.a, .int .u64 (Nd.seq ([A, (Nd.mk 0 Nd.zero 0 0 ([])), B])).set.b, .int .u64 (Nd.seq ([A, (Nd.mk 0 Nd.zero 0 0 ([])), B])).set.c, .int .u64 (Nd.seq ([A, (Nd.mk 0 Nd.zero 0 0 ([])), B])).set.d, .int .i64 (Nd.seq ([A, (Nd.mk 0 Nd.zero 0 0 ([])), B])).least, .int .i64 (Nd.seq ([A, (Nd.mk 0 Nd.zero 0 0 ([])), B])).most, .slice a9211 (Nd.seq ([A, (Nd.mk 0 Nd.zero 0 0 ([])), B])).subs.length cap9211])], (agree_cons (look_right rfl hv9210) (agree_cons (look_right rfl hv9211) (agree_nil _))), ?_⟩
    refine WL.field rfl rfl Ty.fty29_0 Ty.flat5 rfl rfl ?_
    refine WL.nil (fun a_ ha => ?_)
    exact ⟨_, β, ha, (Ext.refl _), BExt.refl _ _, hbi.ext (Ext.refl _), rfl⟩
  · intro σ β w1 hE1 hbi hk
    have hz1 := hE1.size
    obtain ⟨_, hv9310, rfl⟩ := hk 65 (by kernel_rfl) _ _ rfl rfl
    obtain ⟨_, hv9311, rfl⟩ := hk 71 (by kernel_rfl) _ _ rfl rfl
    refine ⟨[(121, .bool false), (127, .int .u8 ((Nd.seq ([A, (Nd.mk 0 Nd.zero 0 0 ([])), B])).kind))], (agree_cons (look_right rfl hv9310) (agree_cons (look_right rfl hv9311) (agree_nil _))), ?_⟩
    refine WL.neq (b := false) rfl rfl rfl rfl (by rw [show (Nd.seq [A, Nd.mk 0 Nd.zero 0 0 [], B]) = Nd.none from Nd.seq_none A B]; rfl) ?_
    refine WL.nil (fun a_ ha => ?_)
    exact ⟨_, β, ha, (Ext.refl _), BExt.refl _ _, hbi.ext (Ext.refl _), rfl⟩
  · intro σ β w1 hE1 hbi hk
    have hz1 := hE1.size
    obtain ⟨_, hv9410, rfl⟩ := hk 65 (by kernel_rfl) _ _ rfl rfl
    obtain ⟨_, hv9411, rfl⟩ := hk 72 (by kernel_rfl) _ _ rfl rfl
    refine ⟨[(121, .bool false), (128, .bool false)], (agree_cons (look_right rfl hv9410) (agree_cons (look_right rfl hv9411) (agree_nil _))), ?_⟩
    refine WL.pick_f rfl rfl rfl rfl ?_
    refine WL.nil (fun a_ ha => ?_)
    exact ⟨_, β, ha, (Ext.refl _), BExt.refl _ _, hbi.ext (Ext.refl _), rfl⟩
  · intro σ β w1 hE1 hbi hk
    have hz1 := hE1.size
    obtain ⟨_, hv9510, rfl⟩ := hk 73 (by kernel_rfl) _ _ rfl rfl
    refine ⟨[(129, .bool false)], (agree_cons (look_right rfl hv9510) (agree_nil _)), ?_⟩
    refine WL.move rfl rfl rfl ?_
    refine WL.nil (fun a_ ha => ?_)
    exact ⟨_, β, ha, (Ext.refl _), BExt.refl _ _, hbi.ext (Ext.refl _), rfl⟩
  · intro σ β w1 hE1 hbi hk
    have hz1 := hE1.size
    obtain ⟨_, hv9610, rfl⟩ := hk 74 (by kernel_rfl) _ _ rfl rfl
    refine ⟨[(130, .bool false)], (agree_cons (look_right rfl hv9610) (agree_nil _)), ?_⟩
    refine WL.call rfl rfl rfl Ty.ent10 (seq_ok _ _ _ _ [] (NodesV.nil (fun _ => False) _ none 0) (Nat.le_of_ble_eq_true rfl)) ?_
    rintro _ w9613 ⟨l9611, rfl, hr9611, hE9612⟩
    have hzhE9612 := hE9612.size
    refine ⟨_, rfl, ?_⟩
    have hn9611 := hr9611.lt
    obtain ⟨sl9611, rfl, hts9611⟩ := hn9611.opn
    obtain ⟨a9611, cap9611, rfl, hlen9611, -⟩ := hts9611.get
    refine WL.nil (fun a_ ha => ?_)
    exact ⟨_, β, ha, hE9612, BExt.refl _ _, hbi.ext hE9612, ⟨_, rfl, (hr9611.off0 hbi (fun k hk => Nat.le_trans hE1.size hk))⟩⟩
  · intro σ β w1 hE1 hbi hk
    have hz1 := hE1.size
    obtain ⟨_, hv9710, rfl⟩ := hk 74 (by kernel_rfl) _ _ rfl rfl
    refine ⟨[(130, .bool false)], (agree_cons (look_right rfl hv9710) (agree_nil _)), ?_⟩
    refine WL.load_box rfl rfl rfl (h1004.ext hE1) Ty.agg29 ?_
    refine WL.nil (fun a_ ha => ?_)
    exact ⟨_, β, ha, (Ext.refl _), BExt.refl _ _, hbi.ext (Ext.refl _), rfl⟩
  · intro σ β w1 hE1 hbi hk
    have hz1 := hE1.size
    obtain ⟨_, hv9810, rfl⟩ := hk 74 (by kernel_rfl) _ _ rfl rfl
    obtain ⟨_, hv9811, l9811, rfl, hn9811⟩ := hk 75 (by kernel_rfl) _ _ rfl rfl
    have hn9811 := hn9811.lt
    obtain ⟨sl9811, rfl, hts9811⟩ := hn9811.opn
    obtain ⟨a9811, cap9811, rfl, hlen9811, -⟩ := hts9811.get
    obtain ⟨_, hv9812, rfl⟩ := hk 76 (by kernel_rfl) _ _ rfl rfl
    refine ⟨[(130, .bool false), (131, .agg #[.int .u8 (Nd.seq []).kind, .int .u64 (Nd.seq []).set.a, .int .u64 (Nd.seq []).set.b, .int .u64 (Nd.seq []).set.c, .int .u64 (Nd.seq []).set.d, .int .i64 (Nd.seq []).least, .int .i64 (Nd.seq []).most, .slice a9811 (Nd.seq []).subs.length cap9811]), (132, .agg #[.int .u8 1, .int .u64 0, .int .u64 0, .int .u64 0, .int .u64 0, .int .i64 0, .int .i64 0, .slice none 0 0])], (agree_cons (look_right rfl hv9810) (agree_cons (look_right rfl hv9811) (agree_cons (look_right rfl hv9812) (agree_nil _)))), ?_⟩
    refine WL.call rfl rfl rfl Ty.ent14 (Same_ok _ _ _ _ _ (Nd.seq []) (Nd.mk 1 Nd.zero 0 0 ([])) hn9811 (h1005.ext hE1)) ?_
    rintro _ w9814 ⟨he, hE9813⟩
    have hq : (Nd.light (Nd.seq []) && Nd.light (Nd.mk 1 Nd.zero 0 0 ([])) && Nd.same (Nd.seq []) (Nd.mk 1 Nd.zero 0 0 ([]))) = true := (by kernel_rfl)
    rw [hq] at he
    subst he
    clear hq
    have hzhE9813 := hE9813.size
    refine ⟨_, rfl, ?_⟩
    refine WL.nil (fun a_ ha => ?_)
    exact ⟨_, β, ha, hE9813, BExt.refl _ _, hbi.ext hE9813, rfl⟩
  · intro σ β w1 hE1 hbi hk
    have hz1 := hE1.size
    obtain ⟨_, hv9910, rfl⟩ := hk 74 (by kernel_rfl) _ _ rfl rfl
    obtain ⟨_, hv9911, rfl⟩ := hk 77 (by kernel_rfl) _ _ rfl rfl
    refine ⟨[(130, .bool false), (133, .bool true)], (agree_cons (look_right rfl hv9910) (agree_cons (look_right rfl hv9911) (agree_nil _))), ?_⟩
    refine WL.not rfl rfl rfl ?_
    refine WL.nil (fun a_ ha => ?_)
    exact ⟨_, β, ha, (Ext.refl _), BExt.refl _ _, hbi.ext (Ext.refl _), rfl⟩
  · intro σ β w1 hE1 hbi hk
    have hz1 := hE1.size
    obtain ⟨_, hv10010, rfl⟩ := hk 74 (by kernel_rfl) _ _ rfl rfl
    obtain ⟨_, hv10011, rfl⟩ := hk 78 (by kernel_rfl) _ _ rfl rfl
    refine ⟨[(130, .bool false), (134, .bool false)], (agree_cons (look_right rfl hv10010) (agree_cons (look_right rfl hv10011) (agree_nil _))), ?_⟩
    refine WL.pick_f rfl rfl rfl rfl ?_
    refine WL.nil (fun a_ ha => ?_)
    exact ⟨_, β, ha, (Ext.refl _), BExt.refl _ _, hbi.ext (Ext.refl _), rfl⟩
  · intro σ β w1 hE1 hbi hk
    have hz1 := hE1.size
    obtain ⟨_, hv10110, rfl⟩ := hk 79 (by kernel_rfl) _ _ rfl rfl
    refine ⟨[(135, .bool false)], (agree_cons (look_right rfl hv10110) (agree_nil _)), ?_⟩
    refine WL.move rfl rfl rfl ?_
    refine WL.nil (fun a_ ha => ?_)
    exact ⟨_, β, ha, (Ext.refl _), BExt.refl _ _, hbi.ext (Ext.refl _), rfl⟩
  · intro σ β w1 hE1 hbi hk
    have hz1 := hE1.size
    obtain ⟨_, hv10210, rfl⟩ := hk 80 (by kernel_rfl) _ _ rfl rfl
    refine ⟨[(136, .bool false)], (agree_cons (look_right rfl hv10210) (agree_nil _)), ?_⟩
    refine WL.call rfl rfl rfl Ty.ent11 (or_ok _ _ _ _ [] (NodesV.nil (fun _ => False) _ none 0) (Nat.le_of_ble_eq_true rfl)) ?_
    rintro _ w10213 ⟨l10211, rfl, hr10211, hE10212⟩
    have hzhE10212 := hE10212.size
    refine ⟨_, rfl, ?_⟩
    have hn10211 := hr10211.lt
    obtain ⟨sl10211, rfl, hts10211⟩ := hn10211.opn
    obtain ⟨a10211, cap10211, rfl, hlen10211, -⟩ := hts10211.get
    refine WL.nil (fun a_ ha => ?_)
    exact ⟨_, β, ha, hE10212, BExt.refl _ _, hbi.ext hE10212, ⟨_, rfl, (hr10211.off0 hbi (fun k hk => Nat.le_trans hE1.size hk))⟩⟩
  · intro σ β w1 hE1 hbi hk
    have hz1 := hE1.size
    obtain ⟨_, hv10310, rfl⟩ := hk 80 (by kernel_rfl) _ _ rfl rfl
    refine ⟨[(136, .bool false)], (agree_cons (look_right rfl hv10310) (agree_nil _)), ?_⟩
    refine WL.load_box rfl rfl rfl (h1006.ext hE1) Ty.agg29 ?_
    refine WL.nil (fun a_ ha => ?_)
    exact ⟨_, β, ha, (Ext.refl _), BExt.refl _ _, hbi.ext (Ext.refl _), rfl⟩
  · intro σ β w1 hE1 hbi hk
    have hz1 := hE1.size
    obtain ⟨_, hv10410, rfl⟩ := hk 80 (by kernel_rfl) _ _ rfl rfl
    obtain ⟨_, hv10411, l10411, rfl, hn10411⟩ := hk 81 (by kernel_rfl) _ _ rfl rfl
    have hn10411 := hn10411.lt
    obtain ⟨sl10411, rfl, hts10411⟩ := hn10411.opn
    obtain ⟨a10411, cap10411, rfl, hlen10411, -⟩ := hts10411.get
    obtain ⟨_, hv10412, rfl⟩ := hk 82 (by kernel_rfl) _ _ rfl rfl
    refine ⟨[(136, .bool false), (137, .agg #[.int .u8 (Nd.or []).kind, .int .u64 (Nd.or []).set.a, .int .u64 (Nd.or []).set.b, .int .u64 (Nd.or []).set.c, .int .u64 (Nd.or []).set.d, .int .i64 (Nd.or []).least, .int .i64 (Nd.or []).most, .slice a10411 (Nd.or []).subs.length cap10411]), (138, .agg #[.int .u8 0, .int .u64 0, .int .u64 0, .int .u64 0, .int .u64 0, .int .i64 0, .int .i64 0, .slice none 0 0])], (agree_cons (look_right rfl hv10410) (agree_cons (look_right rfl hv10411) (agree_cons (look_right rfl hv10412) (agree_nil _)))), ?_⟩
    refine WL.call rfl rfl rfl Ty.ent14 (Same_ok _ _ _ _ _ (Nd.or []) (Nd.mk 0 Nd.zero 0 0 ([])) hn10411 (h1007.ext hE1)) ?_
    rintro _ w10414 ⟨he, hE10413⟩
    have hq : (Nd.light (Nd.or []) && Nd.light (Nd.mk 0 Nd.zero 0 0 ([])) && Nd.same (Nd.or []) (Nd.mk 0 Nd.zero 0 0 ([]))) = true := (by kernel_rfl)
    rw [hq] at he
    subst he
    clear hq
    have hzhE10413 := hE10413.size
    refine ⟨_, rfl, ?_⟩
    refine WL.nil (fun a_ ha => ?_)
    exact ⟨_, β, ha, hE10413, BExt.refl _ _, hbi.ext hE10413, rfl⟩
  · intro σ β w1 hE1 hbi hk
    have hz1 := hE1.size
    obtain ⟨_, hv10510, rfl⟩ := hk 80 (by kernel_rfl) _ _ rfl rfl
    obtain ⟨_, hv10511, rfl⟩ := hk 83 (by kernel_rfl) _ _ rfl rfl
    refine ⟨[(136, .bool false), (139, .bool true)], (agree_cons (look_right rfl hv10510) (agree_cons (look_right rfl hv10511) (agree_nil _))), ?_⟩
    refine WL.not rfl rfl rfl ?_
    refine WL.nil (fun a_ ha => ?_)
    exact ⟨_, β, ha, (Ext.refl _), BExt.refl _ _, hbi.ext (Ext.refl _), rfl⟩
  · intro σ β w1 hE1 hbi hk
    have hz1 := hE1.size
    obtain ⟨_, hv10610, rfl⟩ := hk 80 (by kernel_rfl) _ _ rfl rfl
    obtain ⟨_, hv10611, rfl⟩ := hk 84 (by kernel_rfl) _ _ rfl rfl
    refine ⟨[(136, .bool false), (140, .bool false)], (agree_cons (look_right rfl hv10610) (agree_cons (look_right rfl hv10611) (agree_nil _))), ?_⟩
    refine WL.pick_f rfl rfl rfl rfl ?_
    refine WL.nil (fun a_ ha => ?_)
    exact ⟨_, β, ha, (Ext.refl _), BExt.refl _ _, hbi.ext (Ext.refl _), rfl⟩
  intro σ β w1909 hE1909 hbi1909 hk
  have hz1909 := hE1909.size
  have hbi := hbi1909
  obtain ⟨_, hv1910, rfl⟩ := hk 85 (by decide) _ _ rfl rfl
  refine WL.know [(141, .bool false)] (agree_cons (look_right rfl hv1910) (agree_nil _)) ?_
  refine WL.done' ?_ (fun _ _ h => h)
  refine WC.cond_f rfl ?_
  refine WC.skip'' ?_ (fun _ _ h => h)
  refine WC.seqk ?_
  have h1911 := ((h994.ext hE996).ext hE1909)
  have h1912 := ((h995.ext hE996).ext hE1909)
  refine WC.weaken (r' := [(6, .bool false), (18, .bool false), (7, .pointer (some ⟨b14, 0, none⟩)), (8, .pointer (some ⟨b20, 0, none⟩)), (9, .pointer (some ⟨b26, 0, none⟩)), (12, .pointer (some ⟨b972, 0, none⟩)), (13, .pointer (some ⟨b973, 0, none⟩)), (55, .bool false), (141, .bool false)]) (subReg_cons rfl (subReg_cons rfl (subReg_cons rfl (subReg_cons rfl (subReg_cons rfl (subReg_cons rfl (subReg_cons rfl (subReg_cons rfl (subReg_cons rfl (subReg_nil _)))))))))) ?_
  refine WC.draw 7 [142, 143, 144, 145, 146, 147, 148] [pc (.agg #[.int .u8 A.kind, .int .u64 A.set.a, .int .u64 A.set.b, .int .u64 A.set.c, .int .u64 A.set.d, .int .i64 A.least, .int .i64 A.most, .slice a3 A.subs.length cap3]), pc (.int .i64 (Nd.posns A)), pc (.agg #[.int .u8 B.kind, .int .u64 B.set.a, .int .u64 B.set.b, .int .u64 B.set.c, .int .u64 B.set.d, .int .i64 B.least, .int .i64 B.most, .slice a6 B.subs.length cap6]), pc (.int .i64 (Nd.posns B)), pc (.int .i64 ((Nd.posns A) + (Nd.posns B))), pc (.agg #[.int .u8 C.kind, .int .u64 C.set.a, .int .u64 C.set.b, .int .u64 C.set.c, .int .u64 C.set.d, .int .i64 C.least, .int .i64 C.most, .slice a10 C.subs.length cap10]), pc (.int .i64 (Nd.posns C))] (by kernel_rfl) (by kernel_rfl) ⟨KW_pc _, KW_pc _, KW_pc _, KW_pc _, KW_pc _, KW_pc _, KW_pc _, trivial⟩ rfl rfl rfl (StepsOn.cons ?_ (StepsOn.cons ?_ (StepsOn.cons ?_ (StepsOn.cons ?_ (StepsOn.cons ?_ (StepsOn.cons ?_ (StepsOn.cons ?_ (StepsOn.nil _)))))))) ?_
  · intro σ β w1 hE1 hbi hk
    have hz1 := hE1.size
    refine ⟨[], (agree_nil _), ?_⟩
    refine WL.load_box rfl rfl rfl (h1911.ext hE1) Ty.agg29 ?_
    refine WL.nil (fun a_ ha => ?_)
    exact ⟨_, β, ha, (Ext.refl _), BExt.refl _ _, hbi.ext (Ext.refl _), rfl⟩
  · intro σ β w1 hE1 hbi hk
    have hz1 := hE1.size
    obtain ⟨_, hv3113, rfl⟩ := hk 0 (by kernel_rfl) _ _ rfl rfl
    refine ⟨[(142, .agg #[.int .u8 A.kind, .int .u64 A.set.a, .int .u64 A.set.b, .int .u64 A.set.c, .int .u64 A.set.d, .int .i64 A.least, .int .i64 A.most, .slice a3 A.subs.length cap3])], (agree_cons (look_right rfl hv3113) (agree_nil _)), ?_⟩
    refine WL.call rfl rfl rfl Ty.ent15 (Positions_ok _ _ _ _ (h1912.ext hE1)) ?_
    rintro _ w3115 ⟨rfl, hE3114⟩
    have hzhE3114 := hE3114.size
    refine ⟨_, rfl, ?_⟩
    refine WL.nil (fun a_ ha => ?_)
    exact ⟨_, β, ha, hE3114, BExt.refl _ _, hbi.ext hE3114, rfl⟩
  · intro σ β w1 hE1 hbi hk
    have hz1 := hE1.size
    refine ⟨[], (agree_nil _), ?_⟩
    have h3213 := ((h1000.ext hE1909).ext hE1)
    refine WL.load_box rfl rfl rfl h3213 Ty.agg29 ?_
    refine WL.nil (fun a_ ha => ?_)
    exact ⟨_, β, ha, (Ext.refl _), BExt.refl _ _, hbi.ext (Ext.refl _), rfl⟩
  · intro σ β w1 hE1 hbi hk
    have hz1 := hE1.size
    obtain ⟨_, hv3313, rfl⟩ := hk 2 (by kernel_rfl) _ _ rfl rfl
    refine ⟨[(144, .agg #[.int .u8 B.kind, .int .u64 B.set.a, .int .u64 B.set.b, .int .u64 B.set.c, .int .u64 B.set.d, .int .i64 B.least, .int .i64 B.most, .slice a6 B.subs.length cap6])], (agree_cons (look_right rfl hv3313) (agree_nil _)), ?_⟩
    have h3314 := ((h1001.ext hE1909).ext hE1)
    refine WL.call rfl rfl rfl Ty.ent15 (Positions_ok _ _ _ _ h3314) ?_
    rintro _ w3316 ⟨rfl, hE3315⟩
    have hzhE3315 := hE3315.size
    refine ⟨_, rfl, ?_⟩
    refine WL.nil (fun a_ ha => ?_)
    exact ⟨_, β, ha, hE3315, BExt.refl _ _, hbi.ext hE3315, rfl⟩
  · intro σ β w1 hE1 hbi hk
    have hz1 := hE1.size
    obtain ⟨_, hv3413, rfl⟩ := hk 1 (by kernel_rfl) _ _ rfl rfl
    obtain ⟨_, hv3414, rfl⟩ := hk 3 (by kernel_rfl) _ _ rfl rfl
    refine ⟨[(143, .int .i64 (Nd.posns A)), (145, .int .i64 (Nd.posns B))], (agree_cons (look_right rfl hv3413) (agree_cons (look_right rfl hv3414) (agree_nil _))), ?_⟩
    refine WL.add (v := (Nd.posns A) + (Nd.posns B)) rfl rfl rfl rfl (IntWalk.i64_in _ (by omega)) ?_
    refine WL.nil (fun a_ ha => ?_)
    exact ⟨_, β, ha, (Ext.refl _), BExt.refl _ _, hbi.ext (Ext.refl _), rfl⟩
  · intro σ β w1 hE1 hbi hk
    have hz1 := hE1.size
    refine ⟨[], (agree_nil _), ?_⟩
    have h3513 := ((h1002.ext hE1909).ext hE1)
    refine WL.load_box rfl rfl rfl h3513 Ty.agg29 ?_
    refine WL.nil (fun a_ ha => ?_)
    exact ⟨_, β, ha, (Ext.refl _), BExt.refl _ _, hbi.ext (Ext.refl _), rfl⟩
  · intro σ β w1 hE1 hbi hk
    have hz1 := hE1.size
    obtain ⟨_, hv3613, rfl⟩ := hk 5 (by kernel_rfl) _ _ rfl rfl
    refine ⟨[(147, .agg #[.int .u8 C.kind, .int .u64 C.set.a, .int .u64 C.set.b, .int .u64 C.set.c, .int .u64 C.set.d, .int .i64 C.least, .int .i64 C.most, .slice a10 C.subs.length cap10])], (agree_cons (look_right rfl hv3613) (agree_nil _)), ?_⟩
    have h3614 := ((h1003.ext hE1909).ext hE1)
    refine WL.call rfl rfl rfl Ty.ent15 (Positions_ok _ _ _ _ h3614) ?_
    rintro _ w3616 ⟨rfl, hE3615⟩
    have hzhE3615 := hE3615.size
    refine ⟨_, rfl, ?_⟩
    refine WL.nil (fun a_ ha => ?_)
    exact ⟨_, β, ha, hE3615, BExt.refl _ _, hbi.ext hE3615, rfl⟩
  intro σ β w2812 hE2812 hbi2812 hk
  have hz2812 := hE2812.size
  have hbi := hbi2812
  obtain ⟨_, hv2813, rfl⟩ := hk 4 (by decide) _ _ rfl rfl
  obtain ⟨_, hv2814, rfl⟩ := hk 6 (by decide) _ _ rfl rfl
  refine WL.know [(146, .int .i64 ((Nd.posns A) + (Nd.posns B))), (148, .int .i64 (Nd.posns C))] (agree_cons (look_right rfl hv2813) (agree_cons (look_right rfl hv2814) (agree_nil _))) ?_
  refine WL.add (v := ((Nd.posns A) + (Nd.posns B)) + (Nd.posns C)) rfl rfl rfl rfl (IntWalk.i64_in _ (by omega)) ?_
  refine WL.assign rfl rfl rfl ?_
  refine WL.done' ?_ (fun _ _ h => h)
  refine WC.seqk ?_
  have h2815 := ((h1000.ext hE1909).ext hE2812)
  have h2816 := ((h1001.ext hE1909).ext hE2812)
  have h2817 := ((h1002.ext hE1909).ext hE2812)
  have h2818 := ((h1003.ext hE1909).ext hE2812)
  have h2819 := ((h1004.ext hE1909).ext hE2812)
  have h2820 := ((h1005.ext hE1909).ext hE2812)
  have h2821 := ((h1006.ext hE1909).ext hE2812)
  have h2822 := ((h1007.ext hE1909).ext hE2812)
  have h2823 := ((h1008.ext hE1909).ext hE2812)
  have h2824 := ((h998.ext hE1909).ext hE2812)
  have h2825 := ((h1009.ext hE1909).ext hE2812)
  have h2826 := ((h999.ext hE1909).ext hE2812)
  refine WC.weaken (r' := [(6, .bool false), (18, .bool false), (7, .pointer (some ⟨b14, 0, none⟩)), (8, .pointer (some ⟨b20, 0, none⟩)), (9, .pointer (some ⟨b26, 0, none⟩)), (12, .pointer (some ⟨b972, 0, none⟩)), (13, .pointer (some ⟨b973, 0, none⟩)), (55, .bool false), (141, .bool false), (14, .int .i64 (((Nd.posns A) + (Nd.posns B)) + (Nd.posns C)))]) (subReg_cons rfl (subReg_cons rfl (subReg_cons rfl (subReg_cons rfl (subReg_cons rfl (subReg_cons rfl (subReg_cons rfl (subReg_cons rfl (subReg_cons rfl (subReg_cons rfl (subReg_nil _))))))))))) ?_
  refine WC.draw 7 [150, 151, 152, 153, 154, 155, 156] [pc (.agg #[.int .u8 A.kind, .int .u64 A.set.a, .int .u64 A.set.b, .int .u64 A.set.c, .int .u64 A.set.d, .int .i64 A.least, .int .i64 A.most, .slice a3 A.subs.length cap3]), pc (.int .i64 (Nd.sizes A)), pc (.agg #[.int .u8 B.kind, .int .u64 B.set.a, .int .u64 B.set.b, .int .u64 B.set.c, .int .u64 B.set.d, .int .i64 B.least, .int .i64 B.most, .slice a6 B.subs.length cap6]), pc (.int .i64 (Nd.sizes B)), pc (.int .i64 ((Nd.sizes A) + (Nd.sizes B))), pc (.agg #[.int .u8 C.kind, .int .u64 C.set.a, .int .u64 C.set.b, .int .u64 C.set.c, .int .u64 C.set.d, .int .i64 C.least, .int .i64 C.most, .slice a10 C.subs.length cap10]), pc (.int .i64 (Nd.sizes C))] (by kernel_rfl) (by kernel_rfl) ⟨KW_pc _, KW_pc _, KW_pc _, KW_pc _, KW_pc _, KW_pc _, KW_pc _, trivial⟩ rfl rfl rfl (StepsOn.cons ?_ (StepsOn.cons ?_ (StepsOn.cons ?_ (StepsOn.cons ?_ (StepsOn.cons ?_ (StepsOn.cons ?_ (StepsOn.cons ?_ (StepsOn.nil _)))))))) ?_
  · intro σ β w1 hE1 hbi hk
    have hz1 := hE1.size
    refine ⟨[], (agree_nil _), ?_⟩
    have h3927 := ((h1911.ext hE2812).ext hE1)
    refine WL.load_box rfl rfl rfl h3927 Ty.agg29 ?_
    refine WL.nil (fun a_ ha => ?_)
    exact ⟨_, β, ha, (Ext.refl _), BExt.refl _ _, hbi.ext (Ext.refl _), rfl⟩
  · intro σ β w1 hE1 hbi hk
    have hz1 := hE1.size
    obtain ⟨_, hv4027, rfl⟩ := hk 0 (by kernel_rfl) _ _ rfl rfl
    refine ⟨[(150, .agg #[.int .u8 A.kind, .int .u64 A.set.a, .int .u64 A.set.b, .int .u64 A.set.c, .int .u64 A.set.d, .int .i64 A.least, .int .i64 A.most, .slice a3 A.subs.length cap3])], (agree_cons (look_right rfl hv4027) (agree_nil _)), ?_⟩
    have h4028 := ((h1912.ext hE2812).ext hE1)
    refine WL.call rfl rfl rfl Ty.ent16 (size_ok _ _ _ _ h4028) ?_
    rintro _ w4030 ⟨rfl, hE4029⟩
    have hzhE4029 := hE4029.size
    refine ⟨_, rfl, ?_⟩
    refine WL.nil (fun a_ ha => ?_)
    exact ⟨_, β, ha, hE4029, BExt.refl _ _, hbi.ext hE4029, rfl⟩
  · intro σ β w1 hE1 hbi hk
    have hz1 := hE1.size
    refine ⟨[], (agree_nil _), ?_⟩
    refine WL.load_box rfl rfl rfl (h2815.ext hE1) Ty.agg29 ?_
    refine WL.nil (fun a_ ha => ?_)
    exact ⟨_, β, ha, (Ext.refl _), BExt.refl _ _, hbi.ext (Ext.refl _), rfl⟩
  · intro σ β w1 hE1 hbi hk
    have hz1 := hE1.size
    obtain ⟨_, hv4227, rfl⟩ := hk 2 (by kernel_rfl) _ _ rfl rfl
    refine ⟨[(152, .agg #[.int .u8 B.kind, .int .u64 B.set.a, .int .u64 B.set.b, .int .u64 B.set.c, .int .u64 B.set.d, .int .i64 B.least, .int .i64 B.most, .slice a6 B.subs.length cap6])], (agree_cons (look_right rfl hv4227) (agree_nil _)), ?_⟩
    refine WL.call rfl rfl rfl Ty.ent16 (size_ok _ _ _ _ (h2816.ext hE1)) ?_
    rintro _ w4229 ⟨rfl, hE4228⟩
    have hzhE4228 := hE4228.size
    refine ⟨_, rfl, ?_⟩
    refine WL.nil (fun a_ ha => ?_)
    exact ⟨_, β, ha, hE4228, BExt.refl _ _, hbi.ext hE4228, rfl⟩
  · intro σ β w1 hE1 hbi hk
    have hz1 := hE1.size
    obtain ⟨_, hv4327, rfl⟩ := hk 1 (by kernel_rfl) _ _ rfl rfl
    obtain ⟨_, hv4328, rfl⟩ := hk 3 (by kernel_rfl) _ _ rfl rfl
    refine ⟨[(151, .int .i64 (Nd.sizes A)), (153, .int .i64 (Nd.sizes B))], (agree_cons (look_right rfl hv4327) (agree_cons (look_right rfl hv4328) (agree_nil _))), ?_⟩
    refine WL.add (v := (Nd.sizes A) + (Nd.sizes B)) rfl rfl rfl rfl (IntWalk.i64_in _ (by omega)) ?_
    refine WL.nil (fun a_ ha => ?_)
    exact ⟨_, β, ha, (Ext.refl _), BExt.refl _ _, hbi.ext (Ext.refl _), rfl⟩
  · intro σ β w1 hE1 hbi hk
    have hz1 := hE1.size
    refine ⟨[], (agree_nil _), ?_⟩
    refine WL.load_box rfl rfl rfl (h2817.ext hE1) Ty.agg29 ?_
    refine WL.nil (fun a_ ha => ?_)
    exact ⟨_, β, ha, (Ext.refl _), BExt.refl _ _, hbi.ext (Ext.refl _), rfl⟩
  · intro σ β w1 hE1 hbi hk
    have hz1 := hE1.size
    obtain ⟨_, hv4527, rfl⟩ := hk 5 (by kernel_rfl) _ _ rfl rfl
    refine ⟨[(155, .agg #[.int .u8 C.kind, .int .u64 C.set.a, .int .u64 C.set.b, .int .u64 C.set.c, .int .u64 C.set.d, .int .i64 C.least, .int .i64 C.most, .slice a10 C.subs.length cap10])], (agree_cons (look_right rfl hv4527) (agree_nil _)), ?_⟩
    refine WL.call rfl rfl rfl Ty.ent16 (size_ok _ _ _ _ (h2818.ext hE1)) ?_
    rintro _ w4529 ⟨rfl, hE4528⟩
    have hzhE4528 := hE4528.size
    refine ⟨_, rfl, ?_⟩
    refine WL.nil (fun a_ ha => ?_)
    exact ⟨_, β, ha, hE4528, BExt.refl _ _, hbi.ext hE4528, rfl⟩
  intro σ β w3726 hE3726 hbi3726 hk
  have hz3726 := hE3726.size
  have hbi := hbi3726
  obtain ⟨_, hv3727, rfl⟩ := hk 4 (by decide) _ _ rfl rfl
  obtain ⟨_, hv3728, rfl⟩ := hk 6 (by decide) _ _ rfl rfl
  refine WL.know [(154, .int .i64 ((Nd.sizes A) + (Nd.sizes B))), (156, .int .i64 (Nd.sizes C))] (agree_cons (look_right rfl hv3727) (agree_cons (look_right rfl hv3728) (agree_nil _))) ?_
  refine WL.add (v := ((Nd.sizes A) + (Nd.sizes B)) + (Nd.sizes C)) rfl rfl rfl rfl (IntWalk.i64_in _ (by omega)) ?_
  refine WL.assign rfl rfl rfl ?_
  refine WL.done' ?_ (fun _ _ h => h)
  refine WC.seqk ?_
  have h3729 := ((h1911.ext hE2812).ext hE3726)
  have h3730 := ((h1912.ext hE2812).ext hE3726)
  refine WC.weaken (r' := [(6, .bool false), (18, .bool false), (7, .pointer (some ⟨b14, 0, none⟩)), (8, .pointer (some ⟨b20, 0, none⟩)), (9, .pointer (some ⟨b26, 0, none⟩)), (12, .pointer (some ⟨b972, 0, none⟩)), (13, .pointer (some ⟨b973, 0, none⟩)), (55, .bool false), (141, .bool false), (14, .int .i64 (((Nd.posns A) + (Nd.posns B)) + (Nd.posns C))), (15, .int .i64 (((Nd.sizes A) + (Nd.sizes B)) + (Nd.sizes C)))]) (subReg_cons rfl (subReg_cons rfl (subReg_cons rfl (subReg_cons rfl (subReg_cons rfl (subReg_cons rfl (subReg_cons rfl (subReg_cons rfl (subReg_cons rfl (subReg_cons rfl (subReg_cons rfl (subReg_nil _)))))))))))) ?_
  refine WC.draw 7 [158, 159, 160, 161, 162, 163, 164] [pc (.agg #[.int .u8 A.kind, .int .u64 A.set.a, .int .u64 A.set.b, .int .u64 A.set.c, .int .u64 A.set.d, .int .i64 A.least, .int .i64 A.most, .slice a3 A.subs.length cap3]), pc (.int .i64 (Nd.groups A)), pc (.agg #[.int .u8 B.kind, .int .u64 B.set.a, .int .u64 B.set.b, .int .u64 B.set.c, .int .u64 B.set.d, .int .i64 B.least, .int .i64 B.most, .slice a6 B.subs.length cap6]), pc (.int .i64 (Nd.groups B)), pc (.int .i64 ((Nd.groups A) + (Nd.groups B))), pc (.agg #[.int .u8 C.kind, .int .u64 C.set.a, .int .u64 C.set.b, .int .u64 C.set.c, .int .u64 C.set.d, .int .i64 C.least, .int .i64 C.most, .slice a10 C.subs.length cap10]), pc (.int .i64 (Nd.groups C))] (by kernel_rfl) (by kernel_rfl) ⟨KW_pc _, KW_pc _, KW_pc _, KW_pc _, KW_pc _, KW_pc _, KW_pc _, trivial⟩ rfl rfl rfl (StepsOn.cons ?_ (StepsOn.cons ?_ (StepsOn.cons ?_ (StepsOn.cons ?_ (StepsOn.cons ?_ (StepsOn.cons ?_ (StepsOn.cons ?_ (StepsOn.nil _)))))))) ?_
  · intro σ β w1 hE1 hbi hk
    have hz1 := hE1.size
    refine ⟨[], (agree_nil _), ?_⟩
    refine WL.load_box rfl rfl rfl (h3729.ext hE1) Ty.agg29 ?_
    refine WL.nil (fun a_ ha => ?_)
    exact ⟨_, β, ha, (Ext.refl _), BExt.refl _ _, hbi.ext (Ext.refl _), rfl⟩
  · intro σ β w1 hE1 hbi hk
    have hz1 := hE1.size
    obtain ⟨_, hv4931, rfl⟩ := hk 0 (by kernel_rfl) _ _ rfl rfl
    refine ⟨[(158, .agg #[.int .u8 A.kind, .int .u64 A.set.a, .int .u64 A.set.b, .int .u64 A.set.c, .int .u64 A.set.d, .int .i64 A.least, .int .i64 A.most, .slice a3 A.subs.length cap3])], (agree_cons (look_right rfl hv4931) (agree_nil _)), ?_⟩
    refine WL.call rfl rfl rfl Ty.ent17 (groups_ok _ _ _ _ (h3730.ext hE1)) ?_
    rintro _ w4933 ⟨rfl, hE4932⟩
    have hzhE4932 := hE4932.size
    refine ⟨_, rfl, ?_⟩
    refine WL.nil (fun a_ ha => ?_)
    exact ⟨_, β, ha, hE4932, BExt.refl _ _, hbi.ext hE4932, rfl⟩
  · intro σ β w1 hE1 hbi hk
    have hz1 := hE1.size
    refine ⟨[], (agree_nil _), ?_⟩
    have h5031 := ((h2815.ext hE3726).ext hE1)
    refine WL.load_box rfl rfl rfl h5031 Ty.agg29 ?_
    refine WL.nil (fun a_ ha => ?_)
    exact ⟨_, β, ha, (Ext.refl _), BExt.refl _ _, hbi.ext (Ext.refl _), rfl⟩
  · intro σ β w1 hE1 hbi hk
    have hz1 := hE1.size
    obtain ⟨_, hv5131, rfl⟩ := hk 2 (by kernel_rfl) _ _ rfl rfl
    refine ⟨[(160, .agg #[.int .u8 B.kind, .int .u64 B.set.a, .int .u64 B.set.b, .int .u64 B.set.c, .int .u64 B.set.d, .int .i64 B.least, .int .i64 B.most, .slice a6 B.subs.length cap6])], (agree_cons (look_right rfl hv5131) (agree_nil _)), ?_⟩
    have h5132 := ((h2816.ext hE3726).ext hE1)
    refine WL.call rfl rfl rfl Ty.ent17 (groups_ok _ _ _ _ h5132) ?_
    rintro _ w5134 ⟨rfl, hE5133⟩
    have hzhE5133 := hE5133.size
    refine ⟨_, rfl, ?_⟩
    refine WL.nil (fun a_ ha => ?_)
    exact ⟨_, β, ha, hE5133, BExt.refl _ _, hbi.ext hE5133, rfl⟩
  · intro σ β w1 hE1 hbi hk
    have hz1 := hE1.size
    obtain ⟨_, hv5231, rfl⟩ := hk 1 (by kernel_rfl) _ _ rfl rfl
    obtain ⟨_, hv5232, rfl⟩ := hk 3 (by kernel_rfl) _ _ rfl rfl
    refine ⟨[(159, .int .i64 (Nd.groups A)), (161, .int .i64 (Nd.groups B))], (agree_cons (look_right rfl hv5231) (agree_cons (look_right rfl hv5232) (agree_nil _))), ?_⟩
    refine WL.add (v := (Nd.groups A) + (Nd.groups B)) rfl rfl rfl rfl (IntWalk.i64_in _ (by omega)) ?_
    refine WL.nil (fun a_ ha => ?_)
    exact ⟨_, β, ha, (Ext.refl _), BExt.refl _ _, hbi.ext (Ext.refl _), rfl⟩
  · intro σ β w1 hE1 hbi hk
    have hz1 := hE1.size
    refine ⟨[], (agree_nil _), ?_⟩
    have h5331 := ((h2817.ext hE3726).ext hE1)
    refine WL.load_box rfl rfl rfl h5331 Ty.agg29 ?_
    refine WL.nil (fun a_ ha => ?_)
    exact ⟨_, β, ha, (Ext.refl _), BExt.refl _ _, hbi.ext (Ext.refl _), rfl⟩
  · intro σ β w1 hE1 hbi hk
    have hz1 := hE1.size
    obtain ⟨_, hv5431, rfl⟩ := hk 5 (by kernel_rfl) _ _ rfl rfl
    refine ⟨[(163, .agg #[.int .u8 C.kind, .int .u64 C.set.a, .int .u64 C.set.b, .int .u64 C.set.c, .int .u64 C.set.d, .int .i64 C.least, .int .i64 C.most, .slice a10 C.subs.length cap10])], (agree_cons (look_right rfl hv5431) (agree_nil _)), ?_⟩
    have h5432 := ((h2818.ext hE3726).ext hE1)
    refine WL.call rfl rfl rfl Ty.ent17 (groups_ok _ _ _ _ h5432) ?_
    rintro _ w5434 ⟨rfl, hE5433⟩
    have hzhE5433 := hE5433.size
    refine ⟨_, rfl, ?_⟩
    refine WL.nil (fun a_ ha => ?_)
    exact ⟨_, β, ha, hE5433, BExt.refl _ _, hbi.ext hE5433, rfl⟩
  intro σ β w4630 hE4630 hbi4630 hk
  have hz4630 := hE4630.size
  have hbi := hbi4630
  obtain ⟨_, hv4631, rfl⟩ := hk 4 (by decide) _ _ rfl rfl
  obtain ⟨_, hv4632, rfl⟩ := hk 6 (by decide) _ _ rfl rfl
  refine WL.know [(162, .int .i64 ((Nd.groups A) + (Nd.groups B))), (164, .int .i64 (Nd.groups C))] (agree_cons (look_right rfl hv4631) (agree_cons (look_right rfl hv4632) (agree_nil _))) ?_
  refine WL.add (v := ((Nd.groups A) + (Nd.groups B)) + (Nd.groups C)) rfl rfl rfl rfl (IntWalk.i64_in _ (by omega)) ?_
  refine WL.assign rfl rfl rfl ?_
  refine WL.done' ?_ (fun _ _ h => h)
  refine WC.seqk ?_
  have h4633 := ((h2815.ext hE3726).ext hE4630)
  have h4634 := ((h2816.ext hE3726).ext hE4630)
  have h4635 := ((h2817.ext hE3726).ext hE4630)
  have h4636 := ((h2818.ext hE3726).ext hE4630)
  have h4637 := ((h2819.ext hE3726).ext hE4630)
  have h4638 := ((h2820.ext hE3726).ext hE4630)
  have h4639 := ((h2821.ext hE3726).ext hE4630)
  have h4640 := ((h2822.ext hE3726).ext hE4630)
  have h4641 := ((h2823.ext hE3726).ext hE4630)
  have h4642 := ((h2824.ext hE3726).ext hE4630)
  have h4643 := ((h2825.ext hE3726).ext hE4630)
  have h4644 := ((h2826.ext hE3726).ext hE4630)
  refine WC.weaken (r' := [(6, .bool false), (18, .bool false), (7, .pointer (some ⟨b14, 0, none⟩)), (8, .pointer (some ⟨b20, 0, none⟩)), (12, .pointer (some ⟨b972, 0, none⟩)), (13, .pointer (some ⟨b973, 0, none⟩)), (55, .bool false), (141, .bool false), (14, .int .i64 (((Nd.posns A) + (Nd.posns B)) + (Nd.posns C))), (15, .int .i64 (((Nd.sizes A) + (Nd.sizes B)) + (Nd.sizes C))), (16, .int .i64 (((Nd.groups A) + (Nd.groups B)) + (Nd.groups C)))]) (subReg_cons rfl (subReg_cons rfl (subReg_cons rfl (subReg_cons rfl (subReg_cons rfl (subReg_cons rfl (subReg_cons rfl (subReg_cons rfl (subReg_cons rfl (subReg_cons rfl (subReg_cons rfl (subReg_nil _)))))))))))) ?_
  refine WC.draw 63 [166, 167, 168, 169, 170, 171, 172, 173, 174, 175, 176, 177, 178, 179, 180, 181, 182, 183, 184, 185, 186, 187, 188, 189, 190, 191, 192, 193, 194, 195, 196, 197, 198, 199, 200, 201, 202, 203, 204, 205, 206, 207, 208, 209, 210, 211, 212, 213, 214, 215, 216, 217, 218, 219, 220, 221, 222, 223, 224, 225, 226, 227, 228] [pc (.agg #[.int .u8 (Nd.seq ([A, B, C])).kind, .int .u64 (Nd.seq ([A, B, C])).set.a, .int .u64 (Nd.seq ([A, B, C])).set.b, .int .u64 (Nd.seq ([A, B, C])).set.c, .int .u64 (Nd.seq ([A, B, C])).set.d, .int .i64 (Nd.seq ([A, B, C])).least, .int .i64 (Nd.seq ([A, B, C])).most, .slice a974 (Nd.seq ([A, B, C])).subs.length cap974]), pc (.int .i64 (Nd.posns (Nd.seq ([A, B, C])))), pc (.int .i64 (((Nd.posns A) + (Nd.posns B)) + (Nd.posns C))), pc (.bool true), pc (.bool true), pc (.agg #[.int .u8 (Nd.or ([A, B, C])).kind, .int .u64 (Nd.or ([A, B, C])).set.a, .int .u64 (Nd.or ([A, B, C])).set.b, .int .u64 (Nd.or ([A, B, C])).set.c, .int .u64 (Nd.or ([A, B, C])).set.d, .int .i64 (Nd.or ([A, B, C])).least, .int .i64 (Nd.or ([A, B, C])).most, .slice a975 (Nd.or ([A, B, C])).subs.length cap975]), pc (.int .i64 (Nd.posns (Nd.or ([A, B, C])))), pc (.int .i64 (((Nd.posns A) + (Nd.posns B)) + (Nd.posns C))), pc (.bool true), pc (.bool true), pc (.bool true), pc (.agg #[.int .u8 (Nd.seq ([A, B, C])).kind, .int .u64 (Nd.seq ([A, B, C])).set.a, .int .u64 (Nd.seq ([A, B, C])).set.b, .int .u64 (Nd.seq ([A, B, C])).set.c, .int .u64 (Nd.seq ([A, B, C])).set.d, .int .i64 (Nd.seq ([A, B, C])).least, .int .i64 (Nd.seq ([A, B, C])).most, .slice a974 (Nd.seq ([A, B, C])).subs.length cap974]), pc (.int .i64 (Nd.groups (Nd.seq ([A, B, C])))), pc (.int .i64 (((Nd.groups A) + (Nd.groups B)) + (Nd.groups C))), pc (.bool true), pc (.bool true), pc (.bool true), pc (.agg #[.int .u8 (Nd.or ([A, B, C])).kind, .int .u64 (Nd.or ([A, B, C])).set.a, .int .u64 (Nd.or ([A, B, C])).set.b, .int .u64 (Nd.or ([A, B, C])).set.c, .int .u64 (Nd.or ([A, B, C])).set.d, .int .i64 (Nd.or ([A, B, C])).least, .int .i64 (Nd.or ([A, B, C])).most, .slice a975 (Nd.or ([A, B, C])).subs.length cap975]), pc (.int .i64 (Nd.groups (Nd.or ([A, B, C])))), pc (.int .i64 (((Nd.groups A) + (Nd.groups B)) + (Nd.groups C))), pc (.bool true), pc (.bool true), pc (.bool true), pc (.agg #[.int .u8 (Nd.seq ([A, B, C])).kind, .int .u64 (Nd.seq ([A, B, C])).set.a, .int .u64 (Nd.seq ([A, B, C])).set.b, .int .u64 (Nd.seq ([A, B, C])).set.c, .int .u64 (Nd.seq ([A, B, C])).set.d, .int .i64 (Nd.seq ([A, B, C])).least, .int .i64 (Nd.seq ([A, B, C])).most, .slice a974 (Nd.seq ([A, B, C])).subs.length cap974]), pc (.int .i64 (Nd.sizes (Nd.seq ([A, B, C])))), pc (.int .i64 (((Nd.sizes A) + (Nd.sizes B)) + (Nd.sizes C))), pc (.int .i64 ((((Nd.sizes A) + (Nd.sizes B)) + (Nd.sizes C)) + 1)), pc (.bool true), pc (.bool true), pc (.bool true), pc (.agg #[.int .u8 (Nd.or ([A, B, C])).kind, .int .u64 (Nd.or ([A, B, C])).set.a, .int .u64 (Nd.or ([A, B, C])).set.b, .int .u64 (Nd.or ([A, B, C])).set.c, .int .u64 (Nd.or ([A, B, C])).set.d, .int .i64 (Nd.or ([A, B, C])).least, .int .i64 (Nd.or ([A, B, C])).most, .slice a975 (Nd.or ([A, B, C])).subs.length cap975]), pc (.int .i64 (Nd.sizes (Nd.or ([A, B, C])))), pc (.int .i64 (((Nd.sizes A) + (Nd.sizes B)) + (Nd.sizes C))), pc (.int .i64 ((((Nd.sizes A) + (Nd.sizes B)) + (Nd.sizes C)) + 1)), pc (.bool true), pc (.bool true), pc (.bool true), pc (.agg #[.int .u8 (Nd.or ([A, B, C])).kind, .int .u64 (Nd.or ([A, B, C])).set.a, .int .u64 (Nd.or ([A, B, C])).set.b, .int .u64 (Nd.or ([A, B, C])).set.c, .int .u64 (Nd.or ([A, B, C])).set.d, .int .i64 (Nd.or ([A, B, C])).least, .int .i64 (Nd.or ([A, B, C])).most, .slice a975 (Nd.or ([A, B, C])).subs.length cap975]), pc (.int .i64 (Nd.sizes (Nd.or ([A, B, C])))), pc (.int .i64 (((Nd.sizes A) + (Nd.sizes B)) + (Nd.sizes C))), pc (.int .i64 ((((Nd.sizes A) + (Nd.sizes B)) + (Nd.sizes C)) - 2)), pc (.bool true), pc (.bool true), pc (.bool true), pc (.agg #[.int .u8 A.kind, .int .u64 A.set.a, .int .u64 A.set.b, .int .u64 A.set.c, .int .u64 A.set.d, .int .i64 A.least, .int .i64 A.most, .slice a3 A.subs.length cap3]), pc (.agg #[.int .u8 B.kind, .int .u64 B.set.a, .int .u64 B.set.b, .int .u64 B.set.c, .int .u64 B.set.d, .int .i64 B.least, .int .i64 B.most, .slice a6 B.subs.length cap6]), pnodes (fun _ => True) ([A, B]), pnode (fun k => w4630.heap.size ≤ k) (Nd.seq ([A, B])), pc (.agg #[.int .u8 A.kind, .int .u64 A.set.a, .int .u64 A.set.b, .int .u64 A.set.c, .int .u64 A.set.d, .int .i64 A.least, .int .i64 A.most, .slice a3 A.subs.length cap3]), pc (.agg #[.int .u8 B.kind, .int .u64 B.set.a, .int .u64 B.set.b, .int .u64 B.set.c, .int .u64 B.set.d, .int .i64 B.least, .int .i64 B.most, .slice a6 B.subs.length cap6]), pnode (fun _ => True) (Nd.joins 3 A B), pc (.bool true), pc (.bool true), pc (.bool true), pc (.agg #[.int .u8 A.kind, .int .u64 A.set.a, .int .u64 A.set.b, .int .u64 A.set.c, .int .u64 A.set.d, .int .i64 A.least, .int .i64 A.most, .slice a3 A.subs.length cap3]), pc (.agg #[.int .u8 B.kind, .int .u64 B.set.a, .int .u64 B.set.b, .int .u64 B.set.c, .int .u64 B.set.d, .int .i64 B.least, .int .i64 B.most, .slice a6 B.subs.length cap6]), pnodes (fun _ => True) ([A, B]), pnode (fun k => w4630.heap.size ≤ k) (Nd.or ([A, B])), pc (.agg #[.int .u8 A.kind, .int .u64 A.set.a, .int .u64 A.set.b, .int .u64 A.set.c, .int .u64 A.set.d, .int .i64 A.least, .int .i64 A.most, .slice a3 A.subs.length cap3]), pc (.agg #[.int .u8 B.kind, .int .u64 B.set.a, .int .u64 B.set.b, .int .u64 B.set.c, .int .u64 B.set.d, .int .i64 B.least, .int .i64 B.most, .slice a6 B.subs.length cap6]), pnode (fun _ => True) (Nd.joins 4 A B), pc (.bool true), pc (.bool true)] (by kernel_rfl) (by kernel_rfl) ⟨KW_pc _, KW_pc _, KW_pc _, KW_pc _, KW_pc _, KW_pc _, KW_pc _, KW_pc _, KW_pc _, KW_pc _, KW_pc _, KW_pc _, KW_pc _, KW_pc _, KW_pc _, KW_pc _, KW_pc _, KW_pc _, KW_pc _, KW_pc _, KW_pc _, KW_pc _, KW_pc _, KW_pc _, KW_pc _, KW_pc _, KW_pc _, KW_pc _, KW_pc _, KW_pc _, KW_pc _, KW_pc _, KW_pc _, KW_pc _, KW_pc _, KW_pc _, KW_pc _, KW_pc _, KW_pc _, KW_pc _, KW_pc _, KW_pc _, KW_pc _, KW_pc _, KW_pc _, KW_pc _, KW_pnodes _ _, KW_pnode _ _, KW_pc _, KW_pc _, KW_pnode _ _, KW_pc _, KW_pc _, KW_pc _, KW_pc _, KW_pc _, KW_pnodes _ _, KW_pnode _ _, KW_pc _, KW_pc _, KW_pnode _ _, KW_pc _, KW_pc _, trivial⟩ rfl rfl rfl (StepsOn.cons ?_ (StepsOn.cons ?_ (StepsOn.cons ?_ (StepsOn.cons ?_ (StepsOn.cons ?_ (StepsOn.cons ?_ (StepsOn.cons ?_ (StepsOn.cons ?_ (StepsOn.cons ?_ (StepsOn.cons ?_ (StepsOn.cons ?_ (StepsOn.cons ?_ (StepsOn.cons ?_ (StepsOn.cons ?_ (StepsOn.cons ?_ (StepsOn.cons ?_ (StepsOn.cons ?_ (StepsOn.cons ?_ (StepsOn.cons ?_ (StepsOn.cons ?_ (StepsOn.cons ?_ (StepsOn.cons ?_ (StepsOn.cons ?_ (StepsOn.cons ?_ (StepsOn.cons ?_ (StepsOn.cons ?_ (StepsOn.cons ?_ (StepsOn.cons ?_ (StepsOn.cons ?_ (StepsOn.cons ?_ (StepsOn.cons ?_ (StepsOn.cons ?_ (StepsOn.cons ?_ (StepsOn.cons ?_ (StepsOn.cons ?_ (StepsOn.cons ?_ (StepsOn.cons ?_ (StepsOn.cons ?_ (StepsOn.cons ?_ (StepsOn.cons ?_ (StepsOn.cons ?_ (StepsOn.cons ?_ (StepsOn.cons ?_ (StepsOn.cons ?_ (StepsOn.cons ?_ (StepsOn.cons ?_ (StepsOn.cons ?_ (StepsOn.cons ?_ (StepsOn.cons ?_ (StepsOn.cons ?_ (StepsOn.cons ?_ (StepsOn.cons ?_ (StepsOn.cons ?_ (StepsOn.cons ?_ (StepsOn.cons ?_ (StepsOn.cons ?_ (StepsOn.cons ?_ (StepsOn.cons ?_ (StepsOn.cons ?_ (StepsOn.cons ?_ (StepsOn.cons ?_ (StepsOn.cons ?_ (StepsOn.cons ?_ (StepsOn.nil _)))))))))))))))))))))))))))))))))))))))))))))))))))))))))))))))) ?_
  · intro σ β w1 hE1 hbi hk
    have hz1 := hE1.size
    refine ⟨[], (agree_nil _), ?_⟩
    refine WL.load_box rfl rfl rfl (h4641.ext hE1) Ty.agg29 ?_
    refine WL.nil (fun a_ ha => ?_)
    exact ⟨_, β, ha, (Ext.refl _), BExt.refl _ _, hbi.ext (Ext.refl _), rfl⟩
  · intro σ β w1 hE1 hbi hk
    have hz1 := hE1.size
    obtain ⟨_, hv5845, rfl⟩ := hk 0 (by kernel_rfl) _ _ rfl rfl
    refine ⟨[(166, .agg #[.int .u8 (Nd.seq ([A, B, C])).kind, .int .u64 (Nd.seq ([A, B, C])).set.a, .int .u64 (Nd.seq ([A, B, C])).set.b, .int .u64 (Nd.seq ([A, B, C])).set.c, .int .u64 (Nd.seq ([A, B, C])).set.d, .int .i64 (Nd.seq ([A, B, C])).least, .int .i64 (Nd.seq ([A, B, C])).most, .slice a974 (Nd.seq ([A, B, C])).subs.length cap974])], (agree_cons (look_right rfl hv5845) (agree_nil _)), ?_⟩
    refine WL.call rfl rfl rfl Ty.ent15 (Positions_ok _ _ _ _ (h4642.ext hE1)) ?_
    rintro _ w5847 ⟨rfl, hE5846⟩
    have hzhE5846 := hE5846.size
    refine ⟨_, rfl, ?_⟩
    refine WL.nil (fun a_ ha => ?_)
    exact ⟨_, β, ha, hE5846, BExt.refl _ _, hbi.ext hE5846, rfl⟩
  · intro σ β w1 hE1 hbi hk
    have hz1 := hE1.size
    refine ⟨[], (agree_nil _), ?_⟩
    refine WL.move rfl rfl rfl ?_
    refine WL.nil (fun a_ ha => ?_)
    exact ⟨_, β, ha, (Ext.refl _), BExt.refl _ _, hbi.ext (Ext.refl _), rfl⟩
  · intro σ β w1 hE1 hbi hk
    have hz1 := hE1.size
    obtain ⟨_, hv6045, rfl⟩ := hk 1 (by kernel_rfl) _ _ rfl rfl
    obtain ⟨_, hv6046, rfl⟩ := hk 2 (by kernel_rfl) _ _ rfl rfl
    refine ⟨[(167, .int .i64 (Nd.posns (Nd.seq ([A, B, C])))), (168, .int .i64 (((Nd.posns A) + (Nd.posns B)) + (Nd.posns C)))], (agree_cons (look_right rfl hv6045) (agree_cons (look_right rfl hv6046) (agree_nil _))), ?_⟩
    refine WL.eql (b := true) rfl rfl rfl rfl (by rw [Nd.seq3_posns hmA hmB hmC]; exact beq_self_eq_true _) ?_
    refine WL.nil (fun a_ ha => ?_)
    exact ⟨_, β, ha, (Ext.refl _), BExt.refl _ _, hbi.ext (Ext.refl _), rfl⟩
  · intro σ β w1 hE1 hbi hk
    have hz1 := hE1.size
    obtain ⟨_, hv6145, rfl⟩ := hk 3 (by kernel_rfl) _ _ rfl rfl
    refine ⟨[(169, .bool true)], (agree_cons (look_right rfl hv6145) (agree_nil _)), ?_⟩
    refine WL.move rfl rfl rfl ?_
    refine WL.nil (fun a_ ha => ?_)
    exact ⟨_, β, ha, (Ext.refl _), BExt.refl _ _, hbi.ext (Ext.refl _), rfl⟩
  · intro σ β w1 hE1 hbi hk
    have hz1 := hE1.size
    obtain ⟨_, hv6245, rfl⟩ := hk 4 (by kernel_rfl) _ _ rfl rfl
    refine ⟨[(170, .bool true)], (agree_cons (look_right rfl hv6245) (agree_nil _)), ?_⟩
    refine WL.load_box rfl rfl rfl (h4643.ext hE1) Ty.agg29 ?_
    refine WL.nil (fun a_ ha => ?_)
    exact ⟨_, β, ha, (Ext.refl _), BExt.refl _ _, hbi.ext (Ext.refl _), rfl⟩
  · intro σ β w1 hE1 hbi hk
    have hz1 := hE1.size
    obtain ⟨_, hv6345, rfl⟩ := hk 4 (by kernel_rfl) _ _ rfl rfl
    obtain ⟨_, hv6346, rfl⟩ := hk 5 (by kernel_rfl) _ _ rfl rfl
    refine ⟨[(170, .bool true), (171, .agg #[.int .u8 (Nd.or ([A, B, C])).kind, .int .u64 (Nd.or ([A, B, C])).set.a, .int .u64 (Nd.or ([A, B, C])).set.b, .int .u64 (Nd.or ([A, B, C])).set.c, .int .u64 (Nd.or ([A, B, C])).set.d, .int .i64 (Nd.or ([A, B, C])).least, .int .i64 (Nd.or ([A, B, C])).most, .slice a975 (Nd.or ([A, B, C])).subs.length cap975])], (agree_cons (look_right rfl hv6345) (agree_cons (look_right rfl hv6346) (agree_nil _))), ?_⟩
    refine WL.call rfl rfl rfl Ty.ent15 (Positions_ok _ _ _ _ (h4644.ext hE1)) ?_
    rintro _ w6348 ⟨rfl, hE6347⟩
    have hzhE6347 := hE6347.size
    refine ⟨_, rfl, ?_⟩
    refine WL.nil (fun a_ ha => ?_)
    exact ⟨_, β, ha, hE6347, BExt.refl _ _, hbi.ext hE6347, rfl⟩
  · intro σ β w1 hE1 hbi hk
    have hz1 := hE1.size
    obtain ⟨_, hv6445, rfl⟩ := hk 4 (by kernel_rfl) _ _ rfl rfl
    refine ⟨[(170, .bool true)], (agree_cons (look_right rfl hv6445) (agree_nil _)), ?_⟩
    refine WL.move rfl rfl rfl ?_
    refine WL.nil (fun a_ ha => ?_)
    exact ⟨_, β, ha, (Ext.refl _), BExt.refl _ _, hbi.ext (Ext.refl _), rfl⟩
  · intro σ β w1 hE1 hbi hk
    have hz1 := hE1.size
    obtain ⟨_, hv6545, rfl⟩ := hk 4 (by kernel_rfl) _ _ rfl rfl
    obtain ⟨_, hv6546, rfl⟩ := hk 6 (by kernel_rfl) _ _ rfl rfl
    obtain ⟨_, hv6547, rfl⟩ := hk 7 (by kernel_rfl) _ _ rfl rfl
    refine ⟨[(170, .bool true), (172, .int .i64 (Nd.posns (Nd.or ([A, B, C])))), (173, .int .i64 (((Nd.posns A) + (Nd.posns B)) + (Nd.posns C)))], (agree_cons (look_right rfl hv6545) (agree_cons (look_right rfl hv6546) (agree_cons (look_right rfl hv6547) (agree_nil _)))), ?_⟩
    refine WL.eql (b := true) rfl rfl rfl rfl (by rw [Nd.or3_posns hmA hmB hmC]; exact beq_self_eq_true _) ?_
    refine WL.nil (fun a_ ha => ?_)
    exact ⟨_, β, ha, (Ext.refl _), BExt.refl _ _, hbi.ext (Ext.refl _), rfl⟩
  · intro σ β w1 hE1 hbi hk
    have hz1 := hE1.size
    obtain ⟨_, hv6645, rfl⟩ := hk 4 (by kernel_rfl) _ _ rfl rfl
    obtain ⟨_, hv6646, rfl⟩ := hk 8 (by kernel_rfl) _ _ rfl rfl
    refine ⟨[(170, .bool true), (174, .bool true)], (agree_cons (look_right rfl hv6645) (agree_cons (look_right rfl hv6646) (agree_nil _))), ?_⟩
    refine WL.pick_t rfl rfl rfl rfl ?_
    refine WL.nil (fun a_ ha => ?_)
    exact ⟨_, β, ha, (Ext.refl _), BExt.refl _ _, hbi.ext (Ext.refl _), rfl⟩
  · intro σ β w1 hE1 hbi hk
    have hz1 := hE1.size
    obtain ⟨_, hv6745, rfl⟩ := hk 9 (by kernel_rfl) _ _ rfl rfl
    refine ⟨[(175, .bool true)], (agree_cons (look_right rfl hv6745) (agree_nil _)), ?_⟩
    refine WL.move rfl rfl rfl ?_
    refine WL.nil (fun a_ ha => ?_)
    exact ⟨_, β, ha, (Ext.refl _), BExt.refl _ _, hbi.ext (Ext.refl _), rfl⟩
  · intro σ β w1 hE1 hbi hk
    have hz1 := hE1.size
    obtain ⟨_, hv6845, rfl⟩ := hk 10 (by kernel_rfl) _ _ rfl rfl
    refine ⟨[(176, .bool true)], (agree_cons (look_right rfl hv6845) (agree_nil _)), ?_⟩
    refine WL.load_box rfl rfl rfl (h4641.ext hE1) Ty.agg29 ?_
    refine WL.nil (fun a_ ha => ?_)
    exact ⟨_, β, ha, (Ext.refl _), BExt.refl _ _, hbi.ext (Ext.refl _), rfl⟩
  · intro σ β w1 hE1 hbi hk
    have hz1 := hE1.size
    obtain ⟨_, hv6945, rfl⟩ := hk 10 (by kernel_rfl) _ _ rfl rfl
    obtain ⟨_, hv6946, rfl⟩ := hk 11 (by kernel_rfl) _ _ rfl rfl
    refine ⟨[(176, .bool true), (177, .agg #[.int .u8 (Nd.seq ([A, B, C])).kind, .int .u64 (Nd.seq ([A, B, C])).set.a, .int .u64 (Nd.seq ([A, B, C])).set.b, .int .u64 (Nd.seq ([A, B, C])).set.c, .int .u64 (Nd.seq ([A, B, C])).set.d, .int .i64 (Nd.seq ([A, B, C])).least, .int .i64 (Nd.seq ([A, B, C])).most, .slice a974 (Nd.seq ([A, B, C])).subs.length cap974])], (agree_cons (look_right rfl hv6945) (agree_cons (look_right rfl hv6946) (agree_nil _))), ?_⟩
    refine WL.call rfl rfl rfl Ty.ent17 (groups_ok _ _ _ _ (h4642.ext hE1)) ?_
    rintro _ w6948 ⟨rfl, hE6947⟩
    have hzhE6947 := hE6947.size
    refine ⟨_, rfl, ?_⟩
    refine WL.nil (fun a_ ha => ?_)
    exact ⟨_, β, ha, hE6947, BExt.refl _ _, hbi.ext hE6947, rfl⟩
  · intro σ β w1 hE1 hbi hk
    have hz1 := hE1.size
    obtain ⟨_, hv7045, rfl⟩ := hk 10 (by kernel_rfl) _ _ rfl rfl
    refine ⟨[(176, .bool true)], (agree_cons (look_right rfl hv7045) (agree_nil _)), ?_⟩
    refine WL.move rfl rfl rfl ?_
    refine WL.nil (fun a_ ha => ?_)
    exact ⟨_, β, ha, (Ext.refl _), BExt.refl _ _, hbi.ext (Ext.refl _), rfl⟩
  · intro σ β w1 hE1 hbi hk
    have hz1 := hE1.size
    obtain ⟨_, hv7145, rfl⟩ := hk 10 (by kernel_rfl) _ _ rfl rfl
    obtain ⟨_, hv7146, rfl⟩ := hk 12 (by kernel_rfl) _ _ rfl rfl
    obtain ⟨_, hv7147, rfl⟩ := hk 13 (by kernel_rfl) _ _ rfl rfl
    refine ⟨[(176, .bool true), (178, .int .i64 (Nd.groups (Nd.seq ([A, B, C])))), (179, .int .i64 (((Nd.groups A) + (Nd.groups B)) + (Nd.groups C)))], (agree_cons (look_right rfl hv7145) (agree_cons (look_right rfl hv7146) (agree_cons (look_right rfl hv7147) (agree_nil _)))), ?_⟩
    refine WL.eql (b := true) rfl rfl rfl rfl (by rw [Nd.seq3_groups hmA hmB hmC]; exact beq_self_eq_true _) ?_
    refine WL.nil (fun a_ ha => ?_)
    exact ⟨_, β, ha, (Ext.refl _), BExt.refl _ _, hbi.ext (Ext.refl _), rfl⟩
  · intro σ β w1 hE1 hbi hk
    have hz1 := hE1.size
    obtain ⟨_, hv7245, rfl⟩ := hk 10 (by kernel_rfl) _ _ rfl rfl
    obtain ⟨_, hv7246, rfl⟩ := hk 14 (by kernel_rfl) _ _ rfl rfl
    refine ⟨[(176, .bool true), (180, .bool true)], (agree_cons (look_right rfl hv7245) (agree_cons (look_right rfl hv7246) (agree_nil _))), ?_⟩
    refine WL.pick_t rfl rfl rfl rfl ?_
    refine WL.nil (fun a_ ha => ?_)
    exact ⟨_, β, ha, (Ext.refl _), BExt.refl _ _, hbi.ext (Ext.refl _), rfl⟩
  · intro σ β w1 hE1 hbi hk
    have hz1 := hE1.size
    obtain ⟨_, hv7345, rfl⟩ := hk 15 (by kernel_rfl) _ _ rfl rfl
    refine ⟨[(181, .bool true)], (agree_cons (look_right rfl hv7345) (agree_nil _)), ?_⟩
    refine WL.move rfl rfl rfl ?_
    refine WL.nil (fun a_ ha => ?_)
    exact ⟨_, β, ha, (Ext.refl _), BExt.refl _ _, hbi.ext (Ext.refl _), rfl⟩
  · intro σ β w1 hE1 hbi hk
    have hz1 := hE1.size
    obtain ⟨_, hv7445, rfl⟩ := hk 16 (by kernel_rfl) _ _ rfl rfl
    refine ⟨[(182, .bool true)], (agree_cons (look_right rfl hv7445) (agree_nil _)), ?_⟩
    refine WL.load_box rfl rfl rfl (h4643.ext hE1) Ty.agg29 ?_
    refine WL.nil (fun a_ ha => ?_)
    exact ⟨_, β, ha, (Ext.refl _), BExt.refl _ _, hbi.ext (Ext.refl _), rfl⟩
  · intro σ β w1 hE1 hbi hk
    have hz1 := hE1.size
    obtain ⟨_, hv7545, rfl⟩ := hk 16 (by kernel_rfl) _ _ rfl rfl
    obtain ⟨_, hv7546, rfl⟩ := hk 17 (by kernel_rfl) _ _ rfl rfl
    refine ⟨[(182, .bool true), (183, .agg #[.int .u8 (Nd.or ([A, B, C])).kind, .int .u64 (Nd.or ([A, B, C])).set.a, .int .u64 (Nd.or ([A, B, C])).set.b, .int .u64 (Nd.or ([A, B, C])).set.c, .int .u64 (Nd.or ([A, B, C])).set.d, .int .i64 (Nd.or ([A, B, C])).least, .int .i64 (Nd.or ([A, B, C])).most, .slice a975 (Nd.or ([A, B, C])).subs.length cap975])], (agree_cons (look_right rfl hv7545) (agree_cons (look_right rfl hv7546) (agree_nil _))), ?_⟩
    refine WL.call rfl rfl rfl Ty.ent17 (groups_ok _ _ _ _ (h4644.ext hE1)) ?_
    rintro _ w7548 ⟨rfl, hE7547⟩
    have hzhE7547 := hE7547.size
    refine ⟨_, rfl, ?_⟩
    refine WL.nil (fun a_ ha => ?_)
    exact ⟨_, β, ha, hE7547, BExt.refl _ _, hbi.ext hE7547, rfl⟩
  · intro σ β w1 hE1 hbi hk
    have hz1 := hE1.size
    obtain ⟨_, hv7645, rfl⟩ := hk 16 (by kernel_rfl) _ _ rfl rfl
    refine ⟨[(182, .bool true)], (agree_cons (look_right rfl hv7645) (agree_nil _)), ?_⟩
    refine WL.move rfl rfl rfl ?_
    refine WL.nil (fun a_ ha => ?_)
    exact ⟨_, β, ha, (Ext.refl _), BExt.refl _ _, hbi.ext (Ext.refl _), rfl⟩
  · intro σ β w1 hE1 hbi hk
    have hz1 := hE1.size
    obtain ⟨_, hv7745, rfl⟩ := hk 16 (by kernel_rfl) _ _ rfl rfl
    obtain ⟨_, hv7746, rfl⟩ := hk 18 (by kernel_rfl) _ _ rfl rfl
    obtain ⟨_, hv7747, rfl⟩ := hk 19 (by kernel_rfl) _ _ rfl rfl
    refine ⟨[(182, .bool true), (184, .int .i64 (Nd.groups (Nd.or ([A, B, C])))), (185, .int .i64 (((Nd.groups A) + (Nd.groups B)) + (Nd.groups C)))], (agree_cons (look_right rfl hv7745) (agree_cons (look_right rfl hv7746) (agree_cons (look_right rfl hv7747) (agree_nil _)))), ?_⟩
    refine WL.eql (b := true) rfl rfl rfl rfl (by rw [Nd.or3_groups hmA hmB hmC]; exact beq_self_eq_true _) ?_
    refine WL.nil (fun a_ ha => ?_)
    exact ⟨_, β, ha, (Ext.refl _), BExt.refl _ _, hbi.ext (Ext.refl _), rfl⟩
  · intro σ β w1 hE1 hbi hk
    have hz1 := hE1.size
    obtain ⟨_, hv7845, rfl⟩ := hk 16 (by kernel_rfl) _ _ rfl rfl
    obtain ⟨_, hv7846, rfl⟩ := hk 20 (by kernel_rfl) _ _ rfl rfl
    refine ⟨[(182, .bool true), (186, .bool true)], (agree_cons (look_right rfl hv7845) (agree_cons (look_right rfl hv7846) (agree_nil _))), ?_⟩
    refine WL.pick_t rfl rfl rfl rfl ?_
    refine WL.nil (fun a_ ha => ?_)
    exact ⟨_, β, ha, (Ext.refl _), BExt.refl _ _, hbi.ext (Ext.refl _), rfl⟩
  · intro σ β w1 hE1 hbi hk
    have hz1 := hE1.size
    obtain ⟨_, hv7945, rfl⟩ := hk 21 (by kernel_rfl) _ _ rfl rfl
    refine ⟨[(187, .bool true)], (agree_cons (look_right rfl hv7945) (agree_nil _)), ?_⟩
    refine WL.move rfl rfl rfl ?_
    refine WL.nil (fun a_ ha => ?_)
    exact ⟨_, β, ha, (Ext.refl _), BExt.refl _ _, hbi.ext (Ext.refl _), rfl⟩
  · intro σ β w1 hE1 hbi hk
    have hz1 := hE1.size
    obtain ⟨_, hv8045, rfl⟩ := hk 22 (by kernel_rfl) _ _ rfl rfl
    refine ⟨[(188, .bool true)], (agree_cons (look_right rfl hv8045) (agree_nil _)), ?_⟩
    refine WL.load_box rfl rfl rfl (h4641.ext hE1) Ty.agg29 ?_
    refine WL.nil (fun a_ ha => ?_)
    exact ⟨_, β, ha, (Ext.refl _), BExt.refl _ _, hbi.ext (Ext.refl _), rfl⟩
  · intro σ β w1 hE1 hbi hk
    have hz1 := hE1.size
    obtain ⟨_, hv8145, rfl⟩ := hk 22 (by kernel_rfl) _ _ rfl rfl
    obtain ⟨_, hv8146, rfl⟩ := hk 23 (by kernel_rfl) _ _ rfl rfl
    refine ⟨[(188, .bool true), (189, .agg #[.int .u8 (Nd.seq ([A, B, C])).kind, .int .u64 (Nd.seq ([A, B, C])).set.a, .int .u64 (Nd.seq ([A, B, C])).set.b, .int .u64 (Nd.seq ([A, B, C])).set.c, .int .u64 (Nd.seq ([A, B, C])).set.d, .int .i64 (Nd.seq ([A, B, C])).least, .int .i64 (Nd.seq ([A, B, C])).most, .slice a974 (Nd.seq ([A, B, C])).subs.length cap974])], (agree_cons (look_right rfl hv8145) (agree_cons (look_right rfl hv8146) (agree_nil _))), ?_⟩
    refine WL.call rfl rfl rfl Ty.ent16 (size_ok _ _ _ _ (h4642.ext hE1)) ?_
    rintro _ w8148 ⟨rfl, hE8147⟩
    have hzhE8147 := hE8147.size
    refine ⟨_, rfl, ?_⟩
    refine WL.nil (fun a_ ha => ?_)
    exact ⟨_, β, ha, hE8147, BExt.refl _ _, hbi.ext hE8147, rfl⟩
  · intro σ β w1 hE1 hbi hk
    have hz1 := hE1.size
    obtain ⟨_, hv8245, rfl⟩ := hk 22 (by kernel_rfl) _ _ rfl rfl
    refine ⟨[(188, .bool true)], (agree_cons (look_right rfl hv8245) (agree_nil _)), ?_⟩
    refine WL.move rfl rfl rfl ?_
    refine WL.nil (fun a_ ha => ?_)
    exact ⟨_, β, ha, (Ext.refl _), BExt.refl _ _, hbi.ext (Ext.refl _), rfl⟩
  · intro σ β w1 hE1 hbi hk
    have hz1 := hE1.size
    obtain ⟨_, hv8345, rfl⟩ := hk 22 (by kernel_rfl) _ _ rfl rfl
    obtain ⟨_, hv8346, rfl⟩ := hk 25 (by kernel_rfl) _ _ rfl rfl
    refine ⟨[(188, .bool true), (191, .int .i64 (((Nd.sizes A) + (Nd.sizes B)) + (Nd.sizes C)))], (agree_cons (look_right rfl hv8345) (agree_cons (look_right rfl hv8346) (agree_nil _))), ?_⟩
    refine WL.add (v := (((Nd.sizes A) + (Nd.sizes B)) + (Nd.sizes C)) + 1) rfl rfl rfl rfl (IntWalk.i64_in _ (by omega)) ?_
    refine WL.nil (fun a_ ha => ?_)
    exact ⟨_, β, ha, (Ext.refl _), BExt.refl _ _, hbi.ext (Ext.refl _), rfl⟩
  · intro σ β w1 hE1 hbi hk
    have hz1 := hE1.size
    obtain ⟨_, hv8445, rfl⟩ := hk 22 (by kernel_rfl) _ _ rfl rfl
    obtain ⟨_, hv8446, rfl⟩ := hk 24 (by kernel_rfl) _ _ rfl rfl
    obtain ⟨_, hv8447, rfl⟩ := hk 26 (by kernel_rfl) _ _ rfl rfl
    refine ⟨[(188, .bool true), (190, .int .i64 (Nd.sizes (Nd.seq ([A, B, C])))), (192, .int .i64 ((((Nd.sizes A) + (Nd.sizes B)) + (Nd.sizes C)) + 1))], (agree_cons (look_right rfl hv8445) (agree_cons (look_right rfl hv8446) (agree_cons (look_right rfl hv8447) (agree_nil _)))), ?_⟩
    refine WL.leq (b := true) rfl rfl rfl rfl (decide_eq_true (by have := Nd.seq3_sizes hmA hmB hmC; omega)) ?_
    refine WL.nil (fun a_ ha => ?_)
    exact ⟨_, β, ha, (Ext.refl _), BExt.refl _ _, hbi.ext (Ext.refl _), rfl⟩
  · intro σ β w1 hE1 hbi hk
    have hz1 := hE1.size
    obtain ⟨_, hv8545, rfl⟩ := hk 22 (by kernel_rfl) _ _ rfl rfl
    obtain ⟨_, hv8546, rfl⟩ := hk 27 (by kernel_rfl) _ _ rfl rfl
    refine ⟨[(188, .bool true), (193, .bool true)], (agree_cons (look_right rfl hv8545) (agree_cons (look_right rfl hv8546) (agree_nil _))), ?_⟩
    refine WL.pick_t rfl rfl rfl rfl ?_
    refine WL.nil (fun a_ ha => ?_)
    exact ⟨_, β, ha, (Ext.refl _), BExt.refl _ _, hbi.ext (Ext.refl _), rfl⟩
  · intro σ β w1 hE1 hbi hk
    have hz1 := hE1.size
    obtain ⟨_, hv8645, rfl⟩ := hk 28 (by kernel_rfl) _ _ rfl rfl
    refine ⟨[(194, .bool true)], (agree_cons (look_right rfl hv8645) (agree_nil _)), ?_⟩
    refine WL.move rfl rfl rfl ?_
    refine WL.nil (fun a_ ha => ?_)
    exact ⟨_, β, ha, (Ext.refl _), BExt.refl _ _, hbi.ext (Ext.refl _), rfl⟩
  · intro σ β w1 hE1 hbi hk
    have hz1 := hE1.size
    obtain ⟨_, hv8745, rfl⟩ := hk 29 (by kernel_rfl) _ _ rfl rfl
    refine ⟨[(195, .bool true)], (agree_cons (look_right rfl hv8745) (agree_nil _)), ?_⟩
    refine WL.load_box rfl rfl rfl (h4643.ext hE1) Ty.agg29 ?_
    refine WL.nil (fun a_ ha => ?_)
    exact ⟨_, β, ha, (Ext.refl _), BExt.refl _ _, hbi.ext (Ext.refl _), rfl⟩
  · intro σ β w1 hE1 hbi hk
    have hz1 := hE1.size
    obtain ⟨_, hv8845, rfl⟩ := hk 29 (by kernel_rfl) _ _ rfl rfl
    obtain ⟨_, hv8846, rfl⟩ := hk 30 (by kernel_rfl) _ _ rfl rfl
    refine ⟨[(195, .bool true), (196, .agg #[.int .u8 (Nd.or ([A, B, C])).kind, .int .u64 (Nd.or ([A, B, C])).set.a, .int .u64 (Nd.or ([A, B, C])).set.b, .int .u64 (Nd.or ([A, B, C])).set.c, .int .u64 (Nd.or ([A, B, C])).set.d, .int .i64 (Nd.or ([A, B, C])).least, .int .i64 (Nd.or ([A, B, C])).most, .slice a975 (Nd.or ([A, B, C])).subs.length cap975])], (agree_cons (look_right rfl hv8845) (agree_cons (look_right rfl hv8846) (agree_nil _))), ?_⟩
    refine WL.call rfl rfl rfl Ty.ent16 (size_ok _ _ _ _ (h4644.ext hE1)) ?_
    rintro _ w8848 ⟨rfl, hE8847⟩
    have hzhE8847 := hE8847.size
    refine ⟨_, rfl, ?_⟩
    refine WL.nil (fun a_ ha => ?_)
    exact ⟨_, β, ha, hE8847, BExt.refl _ _, hbi.ext hE8847, rfl⟩
  · intro σ β w1 hE1 hbi hk
    have hz1 := hE1.size
    obtain ⟨_, hv8945, rfl⟩ := hk 29 (by kernel_rfl) _ _ rfl rfl
    refine ⟨[(195, .bool true)], (agree_cons (look_right rfl hv8945) (agree_nil _)), ?_⟩
    refine WL.move rfl rfl rfl ?_
    refine WL.nil (fun a_ ha => ?_)
    exact ⟨_, β, ha, (Ext.refl _), BExt.refl _ _, hbi.ext (Ext.refl _), rfl⟩
  · intro σ β w1 hE1 hbi hk
    have hz1 := hE1.size
    obtain ⟨_, hv9045, rfl⟩ := hk 29 (by kernel_rfl) _ _ rfl rfl
    obtain ⟨_, hv9046, rfl⟩ := hk 32 (by kernel_rfl) _ _ rfl rfl
    refine ⟨[(195, .bool true), (198, .int .i64 (((Nd.sizes A) + (Nd.sizes B)) + (Nd.sizes C)))], (agree_cons (look_right rfl hv9045) (agree_cons (look_right rfl hv9046) (agree_nil _))), ?_⟩
    refine WL.add (v := (((Nd.sizes A) + (Nd.sizes B)) + (Nd.sizes C)) + 1) rfl rfl rfl rfl (IntWalk.i64_in _ (by omega)) ?_
    refine WL.nil (fun a_ ha => ?_)
    exact ⟨_, β, ha, (Ext.refl _), BExt.refl _ _, hbi.ext (Ext.refl _), rfl⟩
  · intro σ β w1 hE1 hbi hk
    have hz1 := hE1.size
    obtain ⟨_, hv9145, rfl⟩ := hk 29 (by kernel_rfl) _ _ rfl rfl
    obtain ⟨_, hv9146, rfl⟩ := hk 31 (by kernel_rfl) _ _ rfl rfl
    obtain ⟨_, hv9147, rfl⟩ := hk 33 (by kernel_rfl) _ _ rfl rfl
    refine ⟨[(195, .bool true), (197, .int .i64 (Nd.sizes (Nd.or ([A, B, C])))), (199, .int .i64 ((((Nd.sizes A) + (Nd.sizes B)) + (Nd.sizes C)) + 1))], (agree_cons (look_right rfl hv9145) (agree_cons (look_right rfl hv9146) (agree_cons (look_right rfl hv9147) (agree_nil _)))), ?_⟩
    refine WL.leq (b := true) rfl rfl rfl rfl (decide_eq_true (by have := Nd.or3_sizes hmA hmB hmC; omega)) ?_
    refine WL.nil (fun a_ ha => ?_)
    exact ⟨_, β, ha, (Ext.refl _), BExt.refl _ _, hbi.ext (Ext.refl _), rfl⟩
  · intro σ β w1 hE1 hbi hk
    have hz1 := hE1.size
    obtain ⟨_, hv9245, rfl⟩ := hk 29 (by kernel_rfl) _ _ rfl rfl
    obtain ⟨_, hv9246, rfl⟩ := hk 34 (by kernel_rfl) _ _ rfl rfl
    refine ⟨[(195, .bool true), (200, .bool true)], (agree_cons (look_right rfl hv9245) (agree_cons (look_right rfl hv9246) (agree_nil _))), ?_⟩
    refine WL.pick_t rfl rfl rfl rfl ?_
    refine WL.nil (fun a_ ha => ?_)
    exact ⟨_, β, ha, (Ext.refl _), BExt.refl _ _, hbi.ext (Ext.refl _), rfl⟩
  · intro σ β w1 hE1 hbi hk
    have hz1 := hE1.size
    obtain ⟨_, hv9345, rfl⟩ := hk 35 (by kernel_rfl) _ _ rfl rfl
    refine ⟨[(201, .bool true)], (agree_cons (look_right rfl hv9345) (agree_nil _)), ?_⟩
    refine WL.move rfl rfl rfl ?_
    refine WL.nil (fun a_ ha => ?_)
    exact ⟨_, β, ha, (Ext.refl _), BExt.refl _ _, hbi.ext (Ext.refl _), rfl⟩
  · intro σ β w1 hE1 hbi hk
    have hz1 := hE1.size
    obtain ⟨_, hv9445, rfl⟩ := hk 36 (by kernel_rfl) _ _ rfl rfl
    refine ⟨[(202, .bool true)], (agree_cons (look_right rfl hv9445) (agree_nil _)), ?_⟩
    refine WL.load_box rfl rfl rfl (h4643.ext hE1) Ty.agg29 ?_
    refine WL.nil (fun a_ ha => ?_)
    exact ⟨_, β, ha, (Ext.refl _), BExt.refl _ _, hbi.ext (Ext.refl _), rfl⟩
  · intro σ β w1 hE1 hbi hk
    have hz1 := hE1.size
    obtain ⟨_, hv9545, rfl⟩ := hk 36 (by kernel_rfl) _ _ rfl rfl
    obtain ⟨_, hv9546, rfl⟩ := hk 37 (by kernel_rfl) _ _ rfl rfl
    refine ⟨[(202, .bool true), (203, .agg #[.int .u8 (Nd.or ([A, B, C])).kind, .int .u64 (Nd.or ([A, B, C])).set.a, .int .u64 (Nd.or ([A, B, C])).set.b, .int .u64 (Nd.or ([A, B, C])).set.c, .int .u64 (Nd.or ([A, B, C])).set.d, .int .i64 (Nd.or ([A, B, C])).least, .int .i64 (Nd.or ([A, B, C])).most, .slice a975 (Nd.or ([A, B, C])).subs.length cap975])], (agree_cons (look_right rfl hv9545) (agree_cons (look_right rfl hv9546) (agree_nil _))), ?_⟩
    refine WL.call rfl rfl rfl Ty.ent16 (size_ok _ _ _ _ (h4644.ext hE1)) ?_
    rintro _ w9548 ⟨rfl, hE9547⟩
    have hzhE9547 := hE9547.size
    refine ⟨_, rfl, ?_⟩
    refine WL.nil (fun a_ ha => ?_)
    exact ⟨_, β, ha, hE9547, BExt.refl _ _, hbi.ext hE9547, rfl⟩
  · intro σ β w1 hE1 hbi hk
    have hz1 := hE1.size
    obtain ⟨_, hv9645, rfl⟩ := hk 36 (by kernel_rfl) _ _ rfl rfl
    refine ⟨[(202, .bool true)], (agree_cons (look_right rfl hv9645) (agree_nil _)), ?_⟩
    refine WL.move rfl rfl rfl ?_
    refine WL.nil (fun a_ ha => ?_)
    exact ⟨_, β, ha, (Ext.refl _), BExt.refl _ _, hbi.ext (Ext.refl _), rfl⟩
  · intro σ β w1 hE1 hbi hk
    have hz1 := hE1.size
    obtain ⟨_, hv9745, rfl⟩ := hk 36 (by kernel_rfl) _ _ rfl rfl
    obtain ⟨_, hv9746, rfl⟩ := hk 39 (by kernel_rfl) _ _ rfl rfl
    refine ⟨[(202, .bool true), (205, .int .i64 (((Nd.sizes A) + (Nd.sizes B)) + (Nd.sizes C)))], (agree_cons (look_right rfl hv9745) (agree_cons (look_right rfl hv9746) (agree_nil _))), ?_⟩
    refine WL.sub (v := (((Nd.sizes A) + (Nd.sizes B)) + (Nd.sizes C)) - 2) rfl rfl rfl rfl (IntWalk.i64_in _ (by omega)) ?_
    refine WL.nil (fun a_ ha => ?_)
    exact ⟨_, β, ha, (Ext.refl _), BExt.refl _ _, hbi.ext (Ext.refl _), rfl⟩
  · intro σ β w1 hE1 hbi hk
    have hz1 := hE1.size
    obtain ⟨_, hv9845, rfl⟩ := hk 36 (by kernel_rfl) _ _ rfl rfl
    obtain ⟨_, hv9846, rfl⟩ := hk 38 (by kernel_rfl) _ _ rfl rfl
    obtain ⟨_, hv9847, rfl⟩ := hk 40 (by kernel_rfl) _ _ rfl rfl
    refine ⟨[(202, .bool true), (204, .int .i64 (Nd.sizes (Nd.or ([A, B, C])))), (206, .int .i64 ((((Nd.sizes A) + (Nd.sizes B)) + (Nd.sizes C)) - 2))], (agree_cons (look_right rfl hv9845) (agree_cons (look_right rfl hv9846) (agree_cons (look_right rfl hv9847) (agree_nil _)))), ?_⟩
    refine WL.geq (b := true) rfl rfl rfl rfl (decide_eq_true (by have := Nd.or3_sizes2 hmA hmB hmC; omega)) ?_
    refine WL.nil (fun a_ ha => ?_)
    exact ⟨_, β, ha, (Ext.refl _), BExt.refl _ _, hbi.ext (Ext.refl _), rfl⟩
  · intro σ β w1 hE1 hbi hk
    have hz1 := hE1.size
    obtain ⟨_, hv9945, rfl⟩ := hk 36 (by kernel_rfl) _ _ rfl rfl
    obtain ⟨_, hv9946, rfl⟩ := hk 41 (by kernel_rfl) _ _ rfl rfl
    refine ⟨[(202, .bool true), (207, .bool true)], (agree_cons (look_right rfl hv9945) (agree_cons (look_right rfl hv9946) (agree_nil _))), ?_⟩
    refine WL.pick_t rfl rfl rfl rfl ?_
    refine WL.nil (fun a_ ha => ?_)
    exact ⟨_, β, ha, (Ext.refl _), BExt.refl _ _, hbi.ext (Ext.refl _), rfl⟩
  · intro σ β w1 hE1 hbi hk
    have hz1 := hE1.size
    obtain ⟨_, hv10045, rfl⟩ := hk 42 (by kernel_rfl) _ _ rfl rfl
    refine ⟨[(208, .bool true)], (agree_cons (look_right rfl hv10045) (agree_nil _)), ?_⟩
    refine WL.move rfl rfl rfl ?_
    refine WL.nil (fun a_ ha => ?_)
    exact ⟨_, β, ha, (Ext.refl _), BExt.refl _ _, hbi.ext (Ext.refl _), rfl⟩
  · intro σ β w1 hE1 hbi hk
    have hz1 := hE1.size
    obtain ⟨_, hv10145, rfl⟩ := hk 43 (by kernel_rfl) _ _ rfl rfl
    refine ⟨[(209, .bool true)], (agree_cons (look_right rfl hv10145) (agree_nil _)), ?_⟩
    have h10146 := ((h3729.ext hE4630).ext hE1)
    refine WL.load_box rfl rfl rfl h10146 Ty.agg29 ?_
    refine WL.nil (fun a_ ha => ?_)
    exact ⟨_, β, ha, (Ext.refl _), BExt.refl _ _, hbi.ext (Ext.refl _), rfl⟩
  · intro σ β w1 hE1 hbi hk
    have hz1 := hE1.size
    obtain ⟨_, hv10245, rfl⟩ := hk 43 (by kernel_rfl) _ _ rfl rfl
    refine ⟨[(209, .bool true)], (agree_cons (look_right rfl hv10245) (agree_nil _)), ?_⟩
    refine WL.load_box rfl rfl rfl (h4633.ext hE1) Ty.agg29 ?_
    refine WL.nil (fun a_ ha => ?_)
    exact ⟨_, β, ha, (Ext.refl _), BExt.refl _ _, hbi.ext (Ext.refl _), rfl⟩
  · intro σ β w1 hE1 hbi hk
    have hz1 := hE1.size
    obtain ⟨_, hv10345, rfl⟩ := hk 43 (by kernel_rfl) _ _ rfl rfl
    obtain ⟨_, hv10346, rfl⟩ := hk 44 (by kernel_rfl) _ _ rfl rfl
    obtain ⟨_, hv10347, rfl⟩ := hk 45 (by kernel_rfl) _ _ rfl rfl
    refine ⟨[(209, .bool true), (210, .agg #[.int .u8 A.kind, .int .u64 A.set.a, .int .u64 A.set.b, .int .u64 A.set.c, .int .u64 A.set.d, .int .i64 A.least, .int .i64 A.most, .slice a3 A.subs.length cap3]), (211, .agg #[.int .u8 B.kind, .int .u64 B.set.a, .int .u64 B.set.b, .int .u64 B.set.c, .int .u64 B.set.d, .int .i64 B.least, .int .i64 B.most, .slice a6 B.subs.length cap6])], (agree_cons (look_right rfl hv10345) (agree_cons (look_right rfl hv10346) (agree_cons (look_right rfl hv10347) (agree_nil _)))), ?_⟩
    have h10348 := ((h3730.ext hE4630).ext hE1)
    refine WL.buildSlice (vs := [.agg #[.int .u8 A.kind, .int .u64 A.set.a, .int .u64 A.set.b, .int .u64 A.set.c, .int .u64 A.set.d, .int .i64 A.least, .int .i64 A.most, .slice a3 A.subs.length cap3], .agg #[.int .u8 B.kind, .int .u64 B.set.a, .int .u64 B.set.b, .int .u64 B.set.c, .int .u64 B.set.d, .int .i64 B.least, .int .i64 B.most, .slice a6 B.subs.length cap6]]) (cells := [.int .u8 A.kind, .int .u64 A.set.a, .int .u64 A.set.b, .int .u64 A.set.c, .int .u64 A.set.d, .int .i64 A.least, .int .i64 A.most, .slice a3 A.subs.length cap3, .int .u8 B.kind, .int .u64 B.set.a, .int .u64 B.set.b, .int .u64 B.set.c, .int .u64 B.set.d, .int .i64 B.least, .int .i64 B.most, .slice a6 B.subs.length cap6]) rfl rfl Ty.slice27 Ty.zero29 rfl rfl rfl rfl rfl rfl (fun b10349 w10354 hb10350 hE10353 hs10351 hR10352 => ?_)
    have hts10349 := (NodesV.lit (n := 2) (ts := [A, B]) hR10352 (RowsL.cons (h10348.ext hE10353) (RowsL.cons ((h4634.ext hE1).ext hE10353) (RowsL.nil' _))) rfl rfl (by decide)).lt
    refine WL.nil (fun a_ ha => ?_)
    exact ⟨_, β, ha, hE10353, BExt.refl _ _, hbi.ext hE10353, ⟨_, _, rfl, (hts10349.dom (by intro k h1; refine ⟨trivial, ?_, h1.2⟩; replace h1 := h1.1; intro x hxm; have hi := hbi.hi x hxm; have lo := hbi.lo x hxm; (try dsimp only at h1); (repeat' first | (guard_hyp h1 : _ ∨ _; refine Or.elim h1 (fun h1 => ?_) (fun h1 => ?_)) | (guard_hyp h1 : _ ∧ _; have hx := h1.2; replace h1 := h1.1)) <;> first | contradiction | omega | exact hx.1 x hxm))⟩⟩
  · intro σ β w1 hE1 hbi hk
    have hz1 := hE1.size
    obtain ⟨_, hv10445, rfl⟩ := hk 43 (by kernel_rfl) _ _ rfl rfl
    obtain ⟨_, hv10446, a10446, cap10446, rfl, hts10446⟩ := hk 46 (by kernel_rfl) _ _ rfl rfl
    have hts10446 := hts10446.lt
    have hlen10446 := hts10446.len
    refine ⟨[(209, .bool true), (212, .slice a10446 (([A, B]).length) cap10446)], (agree_cons (look_right rfl hv10445) (agree_cons (look_right rfl hv10446) (agree_nil _))), ?_⟩
    refine WL.call rfl rfl rfl Ty.ent10 (seq_ok _ _ _ _ ([A, B]) hts10446 (Nat.le_of_ble_eq_true rfl)) ?_
    rintro _ w10449 ⟨l10447, rfl, hr10447, hE10448⟩
    have hzhE10448 := hE10448.size
    refine ⟨_, rfl, ?_⟩
    have hn10447 := hr10447.lt
    obtain ⟨sl10447, rfl, hts10447⟩ := hn10447.opn
    obtain ⟨a10447, cap10447, rfl, hlen10447, -⟩ := hts10447.get
    refine WL.nil (fun a_ ha => ?_)
    exact ⟨_, β, ha, hE10448, BExt.refl _ _, hbi.ext hE10448, ⟨_, rfl, (hr10447.off0 hbi (fun k hk => Nat.le_trans hE1.size hk))⟩⟩
  · intro σ β w1 hE1 hbi hk
    have hz1 := hE1.size
    obtain ⟨_, hv10545, rfl⟩ := hk 43 (by kernel_rfl) _ _ rfl rfl
    refine ⟨[(209, .bool true)], (agree_cons (look_right rfl hv10545) (agree_nil _)), ?_⟩
    have h10546 := ((h3729.ext hE4630).ext hE1)
    refine WL.load_box rfl rfl rfl h10546 Ty.agg29 ?_
    refine WL.nil (fun a_ ha => ?_)
    exact ⟨_, β, ha, (Ext.refl _), BExt.refl _ _, hbi.ext (Ext.refl _), rfl⟩
  · intro σ β w1 hE1 hbi hk
    have hz1 := hE1.size
    obtain ⟨_, hv10645, rfl⟩ := hk 43 (by kernel_rfl) _ _ rfl rfl
    refine ⟨[(209, .bool true)], (agree_cons (look_right rfl hv10645) (agree_nil _)), ?_⟩
    refine WL.load_box rfl rfl rfl (h4633.ext hE1) Ty.agg29 ?_
    refine WL.nil (fun a_ ha => ?_)
    exact ⟨_, β, ha, (Ext.refl _), BExt.refl _ _, hbi.ext (Ext.refl _), rfl⟩
  · intro σ β w1 hE1 hbi hk
    have hz1 := hE1.size
    obtain ⟨_, hv10745, rfl⟩ := hk 43 (by kernel_rfl) _ _ rfl rfl
    obtain ⟨_, hv10746, rfl⟩ := hk 48 (by kernel_rfl) _ _ rfl rfl
    obtain ⟨_, hv10747, rfl⟩ := hk 49 (by kernel_rfl) _ _ rfl rfl
    refine ⟨[(209, .bool true), (214, .agg #[.int .u8 A.kind, .int .u64 A.set.a, .int .u64 A.set.b, .int .u64 A.set.c, .int .u64 A.set.d, .int .i64 A.least, .int .i64 A.most, .slice a3 A.subs.length cap3]), (215, .agg #[.int .u8 B.kind, .int .u64 B.set.a, .int .u64 B.set.b, .int .u64 B.set.c, .int .u64 B.set.d, .int .i64 B.least, .int .i64 B.most, .slice a6 B.subs.length cap6])], (agree_cons (look_right rfl hv10745) (agree_cons (look_right rfl hv10746) (agree_cons (look_right rfl hv10747) (agree_nil _)))), ?_⟩
    have h10748 := ((h3730.ext hE4630).ext hE1)
    refine WL.call rfl rfl rfl Ty.ent18 (joins_ok _ _ _ 3 _ _ A B h10748 (h4634.ext hE1) (by have := hmA.size; omega) (by have := hmB.size; omega)) ?_
    rintro _ w10751 ⟨l10749, rfl, hr10749, hE10750⟩
    have hzhE10750 := hE10750.size
    refine ⟨_, rfl, ?_⟩
    have hn10749 := hr10749.lt
    obtain ⟨sl10749, rfl, hts10749⟩ := hn10749.opn
    obtain ⟨a10749, cap10749, rfl, hlen10749, -⟩ := hts10749.get
    refine WL.nil (fun a_ ha => ?_)
    exact ⟨_, β, ha, hE10750, BExt.refl _ _, hbi.ext hE10750, ⟨_, rfl, (hr10749.lt.dom (by intro k h1; refine ⟨trivial, ?_, h1.2⟩; replace h1 := h1.1; intro x hxm; have hi := hbi.hi x hxm; have lo := hbi.lo x hxm; (try dsimp only at h1); (repeat' first | (guard_hyp h1 : _ ∨ _; refine Or.elim h1 (fun h1 => ?_) (fun h1 => ?_)) | (guard_hyp h1 : _ ∧ _; have hx := h1.2; replace h1 := h1.1)) <;> first | contradiction | omega | exact hx.1 x hxm))⟩⟩
  · intro σ β w1 hE1 hbi hk
    have hz1 := hE1.size
    obtain ⟨_, hv10845, rfl⟩ := hk 43 (by kernel_rfl) _ _ rfl rfl
    obtain ⟨_, hv10846, l10846, rfl, hn10846⟩ := hk 47 (by kernel_rfl) _ _ rfl rfl
    have hn10846 := hn10846.lt
    obtain ⟨sl10846, rfl, hts10846⟩ := hn10846.opn
    obtain ⟨a10846, cap10846, rfl, hlen10846, -⟩ := hts10846.get
    obtain ⟨_, hv10847, l10847, rfl, hn10847⟩ := hk 50 (by kernel_rfl) _ _ rfl rfl
    have hn10847 := hn10847.lt
    obtain ⟨sl10847, rfl, hts10847⟩ := hn10847.opn
    obtain ⟨a10847, cap10847, rfl, hlen10847, -⟩ := hts10847.get
    refine ⟨[(209, .bool true), (213, .agg #[.int .u8 (Nd.seq ([A, B])).kind, .int .u64 (Nd.seq ([A, B])).set.a, .int .u64 (Nd.seq ([A, B])).set.b, .int .u64 (Nd.seq ([A, B])).set.c, .int .u64 (Nd.seq ([A, B])).set.d, .int .i64 (Nd.seq ([A, B])).least, .int .i64 (Nd.seq ([A, B])).most, .slice a10846 (Nd.seq ([A, B])).subs.length cap10846]), (216, .agg #[.int .u8 (Nd.joins 3 A B).kind, .int .u64 (Nd.joins 3 A B).set.a, .int .u64 (Nd.joins 3 A B).set.b, .int .u64 (Nd.joins 3 A B).set.c, .int .u64 (Nd.joins 3 A B).set.d, .int .i64 (Nd.joins 3 A B).least, .int .i64 (Nd.joins 3 A B).most, .slice a10847 (Nd.joins 3 A B).subs.length cap10847])], (agree_cons (look_right rfl hv10845) (agree_cons (look_right rfl hv10846) (agree_cons (look_right rfl hv10847) (agree_nil _)))), ?_⟩
    refine WL.call rfl rfl rfl Ty.ent14 (Same_ok _ _ _ _ _ (Nd.seq ([A, B])) (Nd.joins 3 A B) hn10846 hn10847) ?_
    rintro _ w10849 ⟨he, hE10848⟩
    have hq : (Nd.light (Nd.seq ([A, B])) && Nd.light (Nd.joins 3 A B) && Nd.same (Nd.seq ([A, B])) (Nd.joins 3 A B)) = true := (Nd.Same_eq (Nd.seq_joins hfA hfB) (Nd.seq_joins hfA hfB ▸ (Nd.seq2_fine hqA hqB).light))
    rw [hq] at he
    subst he
    clear hq
    have hzhE10848 := hE10848.size
    refine ⟨_, rfl, ?_⟩
    refine WL.nil (fun a_ ha => ?_)
    exact ⟨_, β, ha, hE10848, BExt.refl _ _, hbi.ext hE10848, rfl⟩
  · intro σ β w1 hE1 hbi hk
    have hz1 := hE1.size
    obtain ⟨_, hv10945, rfl⟩ := hk 43 (by kernel_rfl) _ _ rfl rfl
    obtain ⟨_, hv10946, rfl⟩ := hk 51 (by kernel_rfl) _ _ rfl rfl
    refine ⟨[(209, .bool true), (217, .bool true)], (agree_cons (look_right rfl hv10945) (agree_cons (look_right rfl hv10946) (agree_nil _))), ?_⟩
    refine WL.pick_t rfl rfl rfl rfl ?_
    refine WL.nil (fun a_ ha => ?_)
    exact ⟨_, β, ha, (Ext.refl _), BExt.refl _ _, hbi.ext (Ext.refl _), rfl⟩
  · intro σ β w1 hE1 hbi hk
    have hz1 := hE1.size
    obtain ⟨_, hv11045, rfl⟩ := hk 52 (by kernel_rfl) _ _ rfl rfl
    refine ⟨[(218, .bool true)], (agree_cons (look_right rfl hv11045) (agree_nil _)), ?_⟩
    refine WL.move rfl rfl rfl ?_
    refine WL.nil (fun a_ ha => ?_)
    exact ⟨_, β, ha, (Ext.refl _), BExt.refl _ _, hbi.ext (Ext.refl _), rfl⟩
  · intro σ β w1 hE1 hbi hk
    have hz1 := hE1.size
    obtain ⟨_, hv11145, rfl⟩ := hk 53 (by kernel_rfl) _ _ rfl rfl
    refine ⟨[(219, .bool true)], (agree_cons (look_right rfl hv11145) (agree_nil _)), ?_⟩
    have h11146 := ((h3729.ext hE4630).ext hE1)
    refine WL.load_box rfl rfl rfl h11146 Ty.agg29 ?_
    refine WL.nil (fun a_ ha => ?_)
    exact ⟨_, β, ha, (Ext.refl _), BExt.refl _ _, hbi.ext (Ext.refl _), rfl⟩
  · intro σ β w1 hE1 hbi hk
    have hz1 := hE1.size
    obtain ⟨_, hv11245, rfl⟩ := hk 53 (by kernel_rfl) _ _ rfl rfl
    refine ⟨[(219, .bool true)], (agree_cons (look_right rfl hv11245) (agree_nil _)), ?_⟩
    refine WL.load_box rfl rfl rfl (h4633.ext hE1) Ty.agg29 ?_
    refine WL.nil (fun a_ ha => ?_)
    exact ⟨_, β, ha, (Ext.refl _), BExt.refl _ _, hbi.ext (Ext.refl _), rfl⟩
  · intro σ β w1 hE1 hbi hk
    have hz1 := hE1.size
    obtain ⟨_, hv11345, rfl⟩ := hk 53 (by kernel_rfl) _ _ rfl rfl
    obtain ⟨_, hv11346, rfl⟩ := hk 54 (by kernel_rfl) _ _ rfl rfl
    obtain ⟨_, hv11347, rfl⟩ := hk 55 (by kernel_rfl) _ _ rfl rfl
    refine ⟨[(219, .bool true), (220, .agg #[.int .u8 A.kind, .int .u64 A.set.a, .int .u64 A.set.b, .int .u64 A.set.c, .int .u64 A.set.d, .int .i64 A.least, .int .i64 A.most, .slice a3 A.subs.length cap3]), (221, .agg #[.int .u8 B.kind, .int .u64 B.set.a, .int .u64 B.set.b, .int .u64 B.set.c, .int .u64 B.set.d, .int .i64 B.least, .int .i64 B.most, .slice a6 B.subs.length cap6])], (agree_cons (look_right rfl hv11345) (agree_cons (look_right rfl hv11346) (agree_cons (look_right rfl hv11347) (agree_nil _)))), ?_⟩
    have h11348 := ((h3730.ext hE4630).ext hE1)
    refine WL.buildSlice (vs := [.agg #[.int .u8 A.kind, .int .u64 A.set.a, .int .u64 A.set.b, .int .u64 A.set.c, .int .u64 A.set.d, .int .i64 A.least, .int .i64 A.most, .slice a3 A.subs.length cap3], .agg #[.int .u8 B.kind, .int .u64 B.set.a, .int .u64 B.set.b, .int .u64 B.set.c, .int .u64 B.set.d, .int .i64 B.least, .int .i64 B.most, .slice a6 B.subs.length cap6]]) (cells := [.int .u8 A.kind, .int .u64 A.set.a, .int .u64 A.set.b, .int .u64 A.set.c, .int .u64 A.set.d, .int .i64 A.least, .int .i64 A.most, .slice a3 A.subs.length cap3, .int .u8 B.kind, .int .u64 B.set.a, .int .u64 B.set.b, .int .u64 B.set.c, .int .u64 B.set.d, .int .i64 B.least, .int .i64 B.most, .slice a6 B.subs.length cap6]) rfl rfl Ty.slice27 Ty.zero29 rfl rfl rfl rfl rfl rfl (fun b11349 w11354 hb11350 hE11353 hs11351 hR11352 => ?_)
    have hts11349 := (NodesV.lit (n := 2) (ts := [A, B]) hR11352 (RowsL.cons (h11348.ext hE11353) (RowsL.cons ((h4634.ext hE1).ext hE11353) (RowsL.nil' _))) rfl rfl (by decide)).lt
    refine WL.nil (fun a_ ha => ?_)
    exact ⟨_, β, ha, hE11353, BExt.refl _ _, hbi.ext hE11353, ⟨_, _, rfl, (hts11349.dom (by intro k h1; refine ⟨trivial, ?_, h1.2⟩; replace h1 := h1.1; intro x hxm; have hi := hbi.hi x hxm; have lo := hbi.lo x hxm; (try dsimp only at h1); (repeat' first | (guard_hyp h1 : _ ∨ _; refine Or.elim h1 (fun h1 => ?_) (fun h1 => ?_)) | (guard_hyp h1 : _ ∧ _; have hx := h1.2; replace h1 := h1.1)) <;> first | contradiction | omega | exact hx.1 x hxm))⟩⟩
  · intro σ β w1 hE1 hbi hk
    have hz1 := hE1.size
    obtain ⟨_, hv11445, rfl⟩ := hk 53 (by kernel_rfl) _ _ rfl rfl
    obtain ⟨_, hv11446, a11446, cap11446, rfl, hts11446⟩ := hk 56 (by kernel_rfl) _ _ rfl rfl
    have hts11446 := hts11446.lt
    have hlen11446 := hts11446.len
    refine ⟨[(219, .bool true), (222, .slice a11446 (([A, B]).length) cap11446)], (agree_cons (look_right rfl hv11445) (agree_cons (look_right rfl hv11446) (agree_nil _))), ?_⟩
    refine WL.call rfl rfl rfl Ty.ent11 (or_ok _ _ _ _ ([A, B]) hts11446 (Nat.le_of_ble_eq_true rfl)) ?_
    rintro _ w11449 ⟨l11447, rfl, hr11447, hE11448⟩
    have hzhE11448 := hE11448.size
    refine ⟨_, rfl, ?_⟩
    have hn11447 := hr11447.lt
    obtain ⟨sl11447, rfl, hts11447⟩ := hn11447.opn
    obtain ⟨a11447, cap11447, rfl, hlen11447, -⟩ := hts11447.get
    refine WL.nil (fun a_ ha => ?_)
    exact ⟨_, β, ha, hE11448, BExt.refl _ _, hbi.ext hE11448, ⟨_, rfl, (hr11447.off0 hbi (fun k hk => Nat.le_trans hE1.size hk))⟩⟩
  · intro σ β w1 hE1 hbi hk
    have hz1 := hE1.size
    obtain ⟨_, hv11545, rfl⟩ := hk 53 (by kernel_rfl) _ _ rfl rfl
    refine ⟨[(219, .bool true)], (agree_cons (look_right rfl hv11545) (agree_nil _)), ?_⟩
    have h11546 := ((h3729.ext hE4630).ext hE1)
    refine WL.load_box rfl rfl rfl h11546 Ty.agg29 ?_
    refine WL.nil (fun a_ ha => ?_)
    exact ⟨_, β, ha, (Ext.refl _), BExt.refl _ _, hbi.ext (Ext.refl _), rfl⟩
  · intro σ β w1 hE1 hbi hk
    have hz1 := hE1.size
    obtain ⟨_, hv11645, rfl⟩ := hk 53 (by kernel_rfl) _ _ rfl rfl
    refine ⟨[(219, .bool true)], (agree_cons (look_right rfl hv11645) (agree_nil _)), ?_⟩
    refine WL.load_box rfl rfl rfl (h4633.ext hE1) Ty.agg29 ?_
    refine WL.nil (fun a_ ha => ?_)
    exact ⟨_, β, ha, (Ext.refl _), BExt.refl _ _, hbi.ext (Ext.refl _), rfl⟩
  · intro σ β w1 hE1 hbi hk
    have hz1 := hE1.size
    obtain ⟨_, hv11745, rfl⟩ := hk 53 (by kernel_rfl) _ _ rfl rfl
    obtain ⟨_, hv11746, rfl⟩ := hk 58 (by kernel_rfl) _ _ rfl rfl
    obtain ⟨_, hv11747, rfl⟩ := hk 59 (by kernel_rfl) _ _ rfl rfl
    refine ⟨[(219, .bool true), (224, .agg #[.int .u8 A.kind, .int .u64 A.set.a, .int .u64 A.set.b, .int .u64 A.set.c, .int .u64 A.set.d, .int .i64 A.least, .int .i64 A.most, .slice a3 A.subs.length cap3]), (225, .agg #[.int .u8 B.kind, .int .u64 B.set.a, .int .u64 B.set.b, .int .u64 B.set.c, .int .u64 B.set.d, .int .i64 B.least, .int .i64 B.most, .slice a6 B.subs.length cap6])], (agree_cons (look_right rfl hv11745) (agree_cons (look_right rfl hv11746) (agree_cons (look_right rfl hv11747) (agree_nil _)))), ?_⟩
    have h11748 := ((h3730.ext hE4630).ext hE1)
    refine WL.call rfl rfl rfl Ty.ent18 (joins_ok _ _ _ 4 _ _ A B h11748 (h4634.ext hE1) (by have := hmA.size; omega) (by have := hmB.size; omega)) ?_
    rintro _ w11751 ⟨l11749, rfl, hr11749, hE11750⟩
    have hzhE11750 := hE11750.size
    refine ⟨_, rfl, ?_⟩
    have hn11749 := hr11749.lt
    obtain ⟨sl11749, rfl, hts11749⟩ := hn11749.opn
    obtain ⟨a11749, cap11749, rfl, hlen11749, -⟩ := hts11749.get
    refine WL.nil (fun a_ ha => ?_)
    exact ⟨_, β, ha, hE11750, BExt.refl _ _, hbi.ext hE11750, ⟨_, rfl, (hr11749.lt.dom (by intro k h1; refine ⟨trivial, ?_, h1.2⟩; replace h1 := h1.1; intro x hxm; have hi := hbi.hi x hxm; have lo := hbi.lo x hxm; (try dsimp only at h1); (repeat' first | (guard_hyp h1 : _ ∨ _; refine Or.elim h1 (fun h1 => ?_) (fun h1 => ?_)) | (guard_hyp h1 : _ ∧ _; have hx := h1.2; replace h1 := h1.1)) <;> first | contradiction | omega | exact hx.1 x hxm))⟩⟩
  · intro σ β w1 hE1 hbi hk
    have hz1 := hE1.size
    obtain ⟨_, hv11845, rfl⟩ := hk 53 (by kernel_rfl) _ _ rfl rfl
    obtain ⟨_, hv11846, l11846, rfl, hn11846⟩ := hk 57 (by kernel_rfl) _ _ rfl rfl
    have hn11846 := hn11846.lt
    obtain ⟨sl11846, rfl, hts11846⟩ := hn11846.opn
    obtain ⟨a11846, cap11846, rfl, hlen11846, -⟩ := hts11846.get
    obtain ⟨_, hv11847, l11847, rfl, hn11847⟩ := hk 60 (by kernel_rfl) _ _ rfl rfl
    have hn11847 := hn11847.lt
    obtain ⟨sl11847, rfl, hts11847⟩ := hn11847.opn
    obtain ⟨a11847, cap11847, rfl, hlen11847, -⟩ := hts11847.get
    refine ⟨[(219, .bool true), (223, .agg #[.int .u8 (Nd.or ([A, B])).kind, .int .u64 (Nd.or ([A, B])).set.a, .int .u64 (Nd.or ([A, B])).set.b, .int .u64 (Nd.or ([A, B])).set.c, .int .u64 (Nd.or ([A, B])).set.d, .int .i64 (Nd.or ([A, B])).least, .int .i64 (Nd.or ([A, B])).most, .slice a11846 (Nd.or ([A, B])).subs.length cap11846]), (226, .agg #[.int .u8 (Nd.joins 4 A B).kind, .int .u64 (Nd.joins 4 A B).set.a, .int .u64 (Nd.joins 4 A B).set.b, .int .u64 (Nd.joins 4 A B).set.c, .int .u64 (Nd.joins 4 A B).set.d, .int .i64 (Nd.joins 4 A B).least, .int .i64 (Nd.joins 4 A B).most, .slice a11847 (Nd.joins 4 A B).subs.length cap11847])], (agree_cons (look_right rfl hv11845) (agree_cons (look_right rfl hv11846) (agree_cons (look_right rfl hv11847) (agree_nil _)))), ?_⟩
    refine WL.call rfl rfl rfl Ty.ent14 (Same_ok _ _ _ _ _ (Nd.or ([A, B])) (Nd.joins 4 A B) hn11846 hn11847) ?_
    rintro _ w11849 ⟨he, hE11848⟩
    have hq : (Nd.light (Nd.or ([A, B])) && Nd.light (Nd.joins 4 A B) && Nd.same (Nd.or ([A, B])) (Nd.joins 4 A B)) = true := (Nd.Same_eq (Nd.or_joins hfA hfB) (Nd.or_joins hfA hfB ▸ (Nd.or2_fine hqA hqB).light))
    rw [hq] at he
    subst he
    clear hq
    have hzhE11848 := hE11848.size
    refine ⟨_, rfl, ?_⟩
    refine WL.nil (fun a_ ha => ?_)
    exact ⟨_, β, ha, hE11848, BExt.refl _ _, hbi.ext hE11848, rfl⟩
  · intro σ β w1 hE1 hbi hk
    have hz1 := hE1.size
    obtain ⟨_, hv11945, rfl⟩ := hk 53 (by kernel_rfl) _ _ rfl rfl
    obtain ⟨_, hv11946, rfl⟩ := hk 61 (by kernel_rfl) _ _ rfl rfl
    refine ⟨[(219, .bool true), (227, .bool true)], (agree_cons (look_right rfl hv11945) (agree_cons (look_right rfl hv11946) (agree_nil _))), ?_⟩
    refine WL.pick_t rfl rfl rfl rfl ?_
    refine WL.nil (fun a_ ha => ?_)
    exact ⟨_, β, ha, (Ext.refl _), BExt.refl _ _, hbi.ext (Ext.refl _), rfl⟩
  intro σ β w5544 hE5544 hbi5544 hk
  have hz5544 := hE5544.size
  have hbi := hbi5544
  obtain ⟨_, hv5545, rfl⟩ := hk 62 (by decide) _ _ rfl rfl
  refine WL.know [(228, .bool true)] (agree_cons (look_right rfl hv5545) (agree_nil _)) ?_
  refine WL.assign rfl rfl rfl ?_
  refine WL.done' ?_ (fun _ _ h => h)
  refine WC.ret (fun a_ ha => ?_)
  exact bodyPost_tmp rfl ha rfl ⟨rfl, ((((((((((hB980.onto (hB977.onto ((hB62.onto (hB59.onto (((hB41.onto (hB37.onto (hB33.onto ((((((hE1.trans hE4).trans hE8).trans hE12).trans hE18).trans hE24).trans hE30) (by omega)) (by omega)) (by omega)).trans hE50).trans hE56) (by omega)) (by omega)).trans hE971) (by omega)) (by omega)).trans hE984).trans hE988).trans hE992).trans hE996).trans hE1909).trans hE2812).trans hE3726).trans hE4630).trans hE5544)⟩

end Go.Proofs.Ytaggidjijekpbaa
