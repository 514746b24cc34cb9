/- The parts of what is put together of any two trees that Made makes: the law function RxParts returns true for every two slices of steps; no condition. -/
import Derived.Test.YtaggidjijekpbaaPq3
import Derived.KernelRfl
import Derived.ProofKit
import Derived.Deep.Slices
import Derived.Carry
import Derived.Test.YtaggidjijekpbaaRows
set_option linter.all false
namespace Go.Proofs.Ytaggidjijekpbaa
open Go.Proofs Go.RowKit
theorem made_at {A : Nd} {xs : List (Int × Int × Int)} (h : A = Nd.made xs) (D : Nat → Prop) (w : World) (a : Option Addr) (cap : Nat) (hxs : SmallV D w (.slice a xs.length cap) xs) :
  Calls Try.prog 9 #[.slice a xs.length cap] w fun e w' => ∃ l', e = .returned (.agg l'.toArray) ∧ NodeL (fun k => w.heap.size ≤ k) w' l' A ∧ Ext w w' := by
 subst h; exact made_ok D w a cap xs hxs
def pfo (base : Nat) (xs : List S4) : Post := fun v w _ => FOwn setE 26 base w v xs
theorem KW_pfo (base : Nat) (xs : List S4) : KW (pfo base xs) := fun _ _ _ _ _ E _ h => FOwn.ext h E
set_option maxRecDepth 20000 in
set_option maxHeartbeats 4000000 in
theorem RxParts_ok (w : World) (Dxs : Nat → Prop) (axs : Option Addr) (capxs : Nat) (xs : List (Int × Int × Int)) (hxxs : SmallV Dxs w (.slice axs xs.length capxs) xs) (Dys : Nat → Prop) (ays : Option Addr) (capys : Nat) (ys : List (Int × Int × Int)) (hxys : SmallV Dys w (.slice ays ys.length capys) ys) :
  Calls Try.prog 6 #[.slice axs xs.length capxs, .slice ays ys.length capys] w fun e w' => e = .returned (.bool true) ∧ Ext w w' := by
 have hBxs : Nd.Bytes xs := fun q hq => by have := hxxs.2 q hq; omega
 obtain ⟨A, hA⟩ : ∃ T, T = Nd.made xs := ⟨_, rfl⟩
 have hmA : Nd.MadeOk A := hA ▸ Nd.made_ok' hBxs
 have hfA := hmA.fine
 have hsA := hmA.sizes
 have hpA := hmA.posns
 have hgA := hmA.groups
 have hBys : Nd.Bytes ys := fun q hq => by have := hxys.2 q hq; omega
 obtain ⟨B, hB⟩ : ∃ T, T = Nd.made ys := ⟨_, rfl⟩
 have hmB : Nd.MadeOk B := hB ▸ Nd.made_ok' hBys
 have hfB := hmB.fine
 have hsB := hmB.sizes
 have hpB := hmB.posns
 have hgB := hmB.groups
 have hnf := Nd.nP_fine hmA hmB
 have hnz := Nd.nP_sizes hmA hmB
 have hng := Nd.nP_groups hmA hmB
 have hnp := Nd.nP_posns hmA hmB
 have hla := Nd.sets_len hmA
 have hlb := Nd.sets_len hmB
 have hL2 : (Nd.setsOf A ++ Nd.setsOf B).length ≤ 100 := by rw [List.length_append]; omega
 refine Calls.enter (args := [.slice axs xs.length capxs, .slice ays ys.length capys]) Try.func6 rfl rfl rfl rfl ?_
 refine sq ?_
 refine asg ?_
 refine WL.dn ?_
 refine WC.seqk ?_
 refine sq ?_
 refine WL.call rfl rfl rfl Ty.ent8 (awake_ok _) ?_
 rintro _ w3 ⟨rfl, hE2⟩
 have hzhE2 := hE2.size
 refine ⟨_, rfl, ?_⟩
 refine WL.not rfl rfl rfl ?_
 refine WL.dn ?_
 refine cF ?_
 refine WC.sk ?_
 refine sq ?_
 refine mv ?_
 refine WL.call rfl rfl rfl Ty.ent9 (made_at hA _ _ _ _ (hxxs.ext hE2)) ?_
 rintro _ w6 ⟨l4, rfl, hr4, hE5⟩
 have hzhE5 := hE5.size
 refine ⟨_, rfl, ?_⟩
 have hn4 := hr4.lt
 obtain ⟨a4, cap4, rfl, hts4, hlen4⟩ := hn4.op2
 refine mv ?_
 refine WL.call rfl rfl rfl Ty.ent9 (made_at hB _ _ _ _ (hxys.ext (hE2.trans hE5))) ?_
 rintro _ w9 ⟨l7, rfl, hr7, hE8⟩
 have hzhE8 := hE8.size
 refine ⟨_, rfl, ?_⟩
 have hn7 := hr7.lt
 obtain ⟨a7, cap7, rfl, hts7, hlen7⟩ := hn7.op2
 refine WL.alloc rfl rfl Ty.zero29 rfl (fun b10 w15 hb11 hE14 hs12 hR13 => ?_)
 refine WL.alloc rfl rfl Ty.zero29 rfl (fun b16 w21 hb17 hE20 hs18 hR19 => ?_)
 refine WL.store_box rfl rfl rfl (hR13.ext hE20) Ty.agg29 rfl rfl (fun w24 hB23 hR22 => ?_)
 have hzhB23 := hB23.size
 refine WL.store_box rfl rfl rfl (hB23.row hR19 (by omega)) Ty.agg29 rfl rfl (fun w27 hB26 hR25 => ?_)
 have hzhB26 := hB26.size
 refine WL.dn ?_
 refine WC.seqk ?_
 have h28 := (((((hn4.ext hE8).ext hE14).ext hE20).bu hB23).bu hB26)
 have h29 := ((((hn7.ext hE14).ext hE20).bu hB23).bu hB26)
 refine WC.weaken (r' := [(0, .slice axs xs.length capxs), (4, .bool false), (20, .bool false), (5, pt b10 0), (6, pt b16 0)]) (s4 (sr rfl (subReg_nil _))) ?_
 refine WC.draw 11 [25, 26, 27, 28, 29, 30, 31, 32, 33, 34, 7] [pc (.agg (tcells A (.slice a4 A.subs.length cap4)).toArray), pnode (fun _ => True) (Nd.mk 6 Nd.zero 0 0 [A]), pc (.agg (tcells B (.slice a7 B.subs.length cap7)).toArray), pc (.agg (tcells B (.slice a7 B.subs.length cap7)).toArray), pnode (fun _ => True) (Nd.mk 6 Nd.zero 0 0 [B]), pnode (fun _ => True) (Nd.mk 5 Nd.zero 0 1 [(Nd.mk 6 Nd.zero 0 0 [B])]), pnodes (fun _ => True) ([B, (Nd.mk 5 Nd.zero 0 1 [(Nd.mk 6 Nd.zero 0 0 [B])])]), pnode (fun _ => True) (Nd.mk 4 Nd.zero 0 0 ([B, (Nd.mk 5 Nd.zero 0 1 [(Nd.mk 6 Nd.zero 0 0 [B])])])), pnodes (fun _ => True) ([(Nd.mk 6 Nd.zero 0 0 [A]), (Nd.mk 4 Nd.zero 0 0 ([B, (Nd.mk 5 Nd.zero 0 1 [(Nd.mk 6 Nd.zero 0 0 [B])])]))]), pnode (fun _ => True) (Nd.mk 3 Nd.zero 0 0 ([(Nd.mk 6 Nd.zero 0 0 [A]), (Nd.mk 4 Nd.zero 0 0 ([B, (Nd.mk 5 Nd.zero 0 1 [(Nd.mk 6 Nd.zero 0 0 [B])])]))])), palloc 7 (zc 0 0 0 (.slice none 0 0)) 29] (by kernel_rfl) (by kernel_rfl) ⟨KW_pc _, KW_pnode _ _, KW_pc _, KW_pc _, KW_pnode _ _, KW_pnode _ _, KW_pnodes _ _, KW_pnode _ _, KW_pnodes _ _, KW_pnode _ _, KW_palloc _ _ _, trivial⟩ rfl rfl rfl (sc4 ?_ ?_ ?_ ?_ (sc4 ?_ ?_ ?_ ?_ (sc ?_ (sc ?_ (sc ?_ (StepsOn.nil _)))))) ?_
 ·intro σ β w1 hE1 hbi hk
  have hz1 := hE1.size
  refine ⟨[], (agree_nil _), ?_⟩
  have h50 := ((hB26.row hR22 (by omega)).ext hE1)
  refine WL.load_box rfl rfl rfl h50 Ty.agg29 ?_
  exact dq hbi rfl
 ·intro σ β w1 hE1 hbi hk
  have hz1 := hE1.size
  refine ⟨[(25, .agg (tcells A (.slice a4 A.subs.length cap4)).toArray)], (ak hk 0 (agree_nil _)), ?_⟩
  refine WL.call rfl rfl rfl Ty.ent24 (group_ok _ _ _ A (h28.ext hE1)) ?_
  rintro _ w53 ⟨l51, rfl, hr51, hE52⟩
  have hzhE52 := hE52.size
  refine ⟨_, rfl, ?_⟩
  have hn51 := hr51.lt
  obtain ⟨a51, cap51, rfl, hts51, hlen51⟩ := hn51.op2
  exact dqE hbi hE52 ⟨_, rfl, (hr51.lt.dom (by intro k h1; refine ⟨trivial, ?_, h1.2⟩; replace h1 := h1.1; intro x hxm; have hi := hbi.hi x hxm; have lo := hbi.lo x hxm; (try dsimp only at h1); (repeat' first | (guard_hyp h1 : _ ∨ _; refine Or.elim h1 (fun h1 => ?_) (fun h1 => ?_)) | (guard_hyp h1 : _ ∧ _; have hx := h1.2; replace h1 := h1.1)) <;> first | contradiction | omega | exact hx.1 x hxm))⟩
 ·intro σ β w1 hE1 hbi hk
  refine ⟨[], (agree_nil _), ?_⟩
  refine WL.load_box rfl rfl rfl (hR25.ext hE1) Ty.agg29 ?_
  exact dq hbi rfl
 ·intro σ β w1 hE1 hbi hk
  refine ⟨[], (agree_nil _), ?_⟩
  refine WL.load_box rfl rfl rfl (hR25.ext hE1) Ty.agg29 ?_
  exact dq hbi rfl
 ·intro σ β w1 hE1 hbi hk
  have hz1 := hE1.size
  refine ⟨[(28, .agg (tcells B (.slice a7 B.subs.length cap7)).toArray)], (ak hk 3 (agree_nil _)), ?_⟩
  refine WL.call rfl rfl rfl Ty.ent24 (group_ok _ _ _ B (h29.ext hE1)) ?_
  rintro _ w53 ⟨l51, rfl, hr51, hE52⟩
  have hzhE52 := hE52.size
  refine ⟨_, rfl, ?_⟩
  have hn51 := hr51.lt
  obtain ⟨a51, cap51, rfl, hts51, hlen51⟩ := hn51.op2
  exact dqE hbi hE52 ⟨_, rfl, (hr51.lt.dom (by intro k h1; refine ⟨trivial, ?_, h1.2⟩; replace h1 := h1.1; intro x hxm; have hi := hbi.hi x hxm; have lo := hbi.lo x hxm; (try dsimp only at h1); (repeat' first | (guard_hyp h1 : _ ∨ _; refine Or.elim h1 (fun h1 => ?_) (fun h1 => ?_)) | (guard_hyp h1 : _ ∧ _; have hx := h1.2; replace h1 := h1.1)) <;> first | contradiction | omega | exact hx.1 x hxm))⟩
 ·intro σ β w1 hE1 hbi hk
  have hz1 := hE1.size
  obtain ⟨_, hv50, l50, rfl, hn50⟩ := kn hk 4 rfl rfl
  have hn50 := hn50.lt
  obtain ⟨a50, cap50, rfl, hts50, hlen50⟩ := hn50.op2
  refine ⟨[(29, .agg (tcells (Nd.mk 6 Nd.zero 0 0 [B]) (.slice a50 (Nd.mk 6 Nd.zero 0 0 [B]).subs.length cap50)).toArray)], (ag hv50 (agree_nil _)), ?_⟩
  refine WL.call rfl rfl rfl Ty.ent23 (rep_ok _ _ _ (Nd.mk 6 Nd.zero 0 0 [B]) 0 1 hn50) ?_
  rintro _ w53 ⟨l51, rfl, hr51, hE52⟩
  have hzhE52 := hE52.size
  refine ⟨_, rfl, ?_⟩
  have hn51 := hr51.lt
  obtain ⟨a51, cap51, rfl, hts51, hlen51⟩ := hn51.op2
  exact dqE hbi hE52 ⟨_, rfl, (hr51.lt.dom (by intro k h1; refine ⟨trivial, ?_, h1.2⟩; replace h1 := h1.1; intro x hxm; have hi := hbi.hi x hxm; have lo := hbi.lo x hxm; (try dsimp only at h1); (repeat' first | (guard_hyp h1 : _ ∨ _; refine Or.elim h1 (fun h1 => ?_) (fun h1 => ?_)) | (guard_hyp h1 : _ ∧ _; have hx := h1.2; replace h1 := h1.1)) <;> first | contradiction | omega | exact hx.1 x hxm))⟩
 ·intro σ β w1 hE1 hbi hk
  have hz1 := hE1.size
  obtain ⟨_, hv51, l51, rfl, hn51⟩ := kn hk 5 rfl rfl
  have hn51 := hn51.lt
  obtain ⟨a51, cap51, rfl, hts51, hlen51⟩ := hn51.op2
  refine ⟨[(27, .agg (tcells B (.slice a7 B.subs.length cap7)).toArray), (30, .agg (tcells (Nd.mk 5 Nd.zero 0 1 [(Nd.mk 6 Nd.zero 0 0 [B])]) (.slice a51 (Nd.mk 5 Nd.zero 0 1 [(Nd.mk 6 Nd.zero 0 0 [B])]).subs.length cap51)).toArray)], (ak hk 2 (ag hv51 (agree_nil _))), ?_⟩
  refine WL.buildSlice (vs := [.agg (tcells B (.slice a7 B.subs.length cap7)).toArray, .agg (tcells (Nd.mk 5 Nd.zero 0 1 [(Nd.mk 6 Nd.zero 0 0 [B])]) (.slice a51 (Nd.mk 5 Nd.zero 0 1 [(Nd.mk 6 Nd.zero 0 0 [B])]).subs.length cap51)).toArray]) (cells := (tcells B (.slice a7 B.subs.length cap7) ++ tcells (Nd.mk 5 Nd.zero 0 1 [(Nd.mk 6 Nd.zero 0 0 [B])]) (.slice a51 (Nd.mk 5 Nd.zero 0 1 [(Nd.mk 6 Nd.zero 0 0 [B])]).subs.length cap51))) rfl rfl Ty.slice27 Ty.zero29 rfl rfl rfl rfl rfl rfl (fun b52 w57 hb53 hE56 hs54 hR55 => ?_)
  have hts52 := (NodesV.lit (n := 2) (ts := [B, (Nd.mk 5 Nd.zero 0 1 [(Nd.mk 6 Nd.zero 0 0 [B])])]) hR55 (RowsL.cons ((h29.ext hE1).ext hE56) (RowsL.cons (hn51.ext hE56) (RowsL.nil' _))) rfl rfl (by decide)).lt
  exact dqE hbi hE56 ⟨_, _, rfl, (hts52.dom (by intro k h1; refine ⟨trivial, ?_, h1.2⟩; replace h1 := h1.1; intro x hxm; have hi := hbi.hi x hxm; have lo := hbi.lo x hxm; (try dsimp only at h1); (repeat' first | (guard_hyp h1 : _ ∨ _; refine Or.elim h1 (fun h1 => ?_) (fun h1 => ?_)) | (guard_hyp h1 : _ ∧ _; have hx := h1.2; replace h1 := h1.1)) <;> first | contradiction | omega | exact hx.1 x hxm))⟩
 ·intro σ β w1 hE1 hbi hk
  have hz1 := hE1.size
  obtain ⟨_, hv50, a50, cap50, rfl, hts50⟩ := kn hk 6 rfl rfl
  have hts50 := hts50.lt
  have hlen50 := hts50.len
  refine ⟨[(31, .slice a50 (([B, (Nd.mk 5 Nd.zero 0 1 [(Nd.mk 6 Nd.zero 0 0 [B])])]).length) cap50)], (ag hv50 (agree_nil _)), ?_⟩
  refine WL.call rfl rfl rfl Ty.ent22 (alt_ok _ _ _ _ ([B, (Nd.mk 5 Nd.zero 0 1 [(Nd.mk 6 Nd.zero 0 0 [B])])]) hts50) ?_
  rintro _ w53 ⟨l51, rfl, hr51, hE52⟩
  have hzhE52 := hE52.size
  refine ⟨_, rfl, ?_⟩
  have hn51 := hr51.lt
  obtain ⟨a51, cap51, rfl, hts51, hlen51⟩ := hn51.op2
  exact dqE hbi hE52 ⟨_, rfl, (hr51.lt.dom (by intro k h1; refine ⟨trivial, ?_, h1.2⟩; replace h1 := h1.1; intro x hxm; have hi := hbi.hi x hxm; have lo := hbi.lo x hxm; (try dsimp only at h1); (repeat' first | (guard_hyp h1 : _ ∨ _; refine Or.elim h1 (fun h1 => ?_) (fun h1 => ?_)) | (guard_hyp h1 : _ ∧ _; have hx := h1.2; replace h1 := h1.1)) <;> first | contradiction | omega | exact hx.1 x hxm))⟩
 ·intro σ β w1 hE1 hbi hk
  have hz1 := hE1.size
  obtain ⟨_, hv50, l50, rfl, hn50⟩ := kn hk 1 rfl rfl
  have hn50 := hn50.lt
  obtain ⟨a50, cap50, rfl, hts50, hlen50⟩ := hn50.op2
  obtain ⟨_, hv51, l51, rfl, hn51⟩ := kn hk 7 rfl rfl
  have hn51 := hn51.lt
  obtain ⟨a51, cap51, rfl, hts51, hlen51⟩ := hn51.op2
  refine ⟨[(26, .agg (tcells (Nd.mk 6 Nd.zero 0 0 [A]) (.slice a50 (Nd.mk 6 Nd.zero 0 0 [A]).subs.length cap50)).toArray), (32, .agg (tcells (Nd.mk 4 Nd.zero 0 0 ([B, (Nd.mk 5 Nd.zero 0 1 [(Nd.mk 6 Nd.zero 0 0 [B])])])) (.slice a51 (Nd.mk 4 Nd.zero 0 0 ([B, (Nd.mk 5 Nd.zero 0 1 [(Nd.mk 6 Nd.zero 0 0 [B])])])).subs.length cap51)).toArray)], (ag hv50 (ag hv51 (agree_nil _))), ?_⟩
  refine WL.buildSlice (vs := [.agg (tcells (Nd.mk 6 Nd.zero 0 0 [A]) (.slice a50 (Nd.mk 6 Nd.zero 0 0 [A]).subs.length cap50)).toArray, .agg (tcells (Nd.mk 4 Nd.zero 0 0 ([B, (Nd.mk 5 Nd.zero 0 1 [(Nd.mk 6 Nd.zero 0 0 [B])])])) (.slice a51 (Nd.mk 4 Nd.zero 0 0 ([B, (Nd.mk 5 Nd.zero 0 1 [(Nd.mk 6 Nd.zero 0 0 [B])])])).subs.length cap51)).toArray]) (cells := (tcells (Nd.mk 6 Nd.zero 0 0 [A]) (.slice a50 (Nd.mk 6 Nd.zero 0 0 [A]).subs.length cap50) ++ tcells (Nd.mk 4 Nd.zero 0 0 ([B, (Nd.mk 5 Nd.zero 0 1 [(Nd.mk 6 Nd.zero 0 0 [B])])])) (.slice a51 (Nd.mk 4 Nd.zero 0 0 ([B, (Nd.mk 5 Nd.zero 0 1 [(Nd.mk 6 Nd.zero 0 0 [B])])])).subs.length cap51))) rfl rfl Ty.slice27 Ty.zero29 rfl rfl rfl rfl rfl rfl (fun b52 w57 hb53 hE56 hs54 hR55 => ?_)
  have hts52 := (NodesV.lit (n := 2) (ts := [(Nd.mk 6 Nd.zero 0 0 [A]), (Nd.mk 4 Nd.zero 0 0 ([B, (Nd.mk 5 Nd.zero 0 1 [(Nd.mk 6 Nd.zero 0 0 [B])])]))]) hR55 (RowsL.cons (hn50.ext hE56) (RowsL.cons (hn51.ext hE56) (RowsL.nil' _))) rfl rfl (by decide)).lt
  exact dqE hbi hE56 ⟨_, _, rfl, (hts52.dom (by intro k h1; refine ⟨trivial, ?_, h1.2⟩; replace h1 := h1.1; intro x hxm; have hi := hbi.hi x hxm; have lo := hbi.lo x hxm; (try dsimp only at h1); (repeat' first | (guard_hyp h1 : _ ∨ _; refine Or.elim h1 (fun h1 => ?_) (fun h1 => ?_)) | (guard_hyp h1 : _ ∧ _; have hx := h1.2; replace h1 := h1.1)) <;> first | contradiction | omega | exact hx.1 x hxm))⟩
 ·intro σ β w1 hE1 hbi hk
  have hz1 := hE1.size
  obtain ⟨_, hv50, a50, cap50, rfl, hts50⟩ := kn hk 8 rfl rfl
  have hts50 := hts50.lt
  have hlen50 := hts50.len
  refine ⟨[(33, .slice a50 (([(Nd.mk 6 Nd.zero 0 0 [A]), (Nd.mk 4 Nd.zero 0 0 ([B, (Nd.mk 5 Nd.zero 0 1 [(Nd.mk 6 Nd.zero 0 0 [B])])]))]).length) cap50)], (ag hv50 (agree_nil _)), ?_⟩
  refine WL.call rfl rfl rfl Ty.ent21 (cat_ok _ _ _ _ ([(Nd.mk 6 Nd.zero 0 0 [A]), (Nd.mk 4 Nd.zero 0 0 ([B, (Nd.mk 5 Nd.zero 0 1 [(Nd.mk 6 Nd.zero 0 0 [B])])]))]) hts50) ?_
  rintro _ w53 ⟨l51, rfl, hr51, hE52⟩
  have hzhE52 := hE52.size
  refine ⟨_, rfl, ?_⟩
  have hn51 := hr51.lt
  obtain ⟨a51, cap51, rfl, hts51, hlen51⟩ := hn51.op2
  exact dqE hbi hE52 ⟨_, rfl, (hr51.lt.dom (by intro k h1; refine ⟨trivial, ?_, h1.2⟩; replace h1 := h1.1; intro x hxm; have hi := hbi.hi x hxm; have lo := hbi.lo x hxm; (try dsimp only at h1); (repeat' first | (guard_hyp h1 : _ ∨ _; refine Or.elim h1 (fun h1 => ?_) (fun h1 => ?_)) | (guard_hyp h1 : _ ∧ _; have hx := h1.2; replace h1 := h1.1)) <;> first | contradiction | omega | exact hx.1 x hxm))⟩
 ·intro σ β w1 hE1 hbi hk
  refine ⟨[], (agree_nil _), ?_⟩
  refine WL.alloc rfl rfl Ty.zero29 rfl (fun b50 w55 hb51 hE54 hs52 hR53 => ?_)
  refine WL.nil (fun a_ ha => ?_)
  exact ⟨_, (7, b50) :: β, ha, hE54, BExt.cons (Nat.le_of_eq hb51.symm), hbi.cons hE54 hE1.size (Nat.le_of_eq hb51.symm) hR53.lt, b50, rfl, hR53, .head _⟩
 intro σ β w30 hE30 hbi30 hk
 have hz30 := hE30.size
 have hbi := hbi30
 obtain ⟨_, hv31, b31, rfl, hR31, hm31⟩ := hk 10 (by decide) _ _ rfl rfl
 have hlo31 := hbi.lo _ hm31
 have hhi31 := hbi.hi _ hm31
 obtain ⟨_, hv32, l32, rfl, hn32⟩ := hk 9 (by decide) _ _ rfl rfl
 have hn32 := hn32.dom (D' := fun k => ((True) ∧ b31 ≠ k) ∧ k < w30.heap.size) (fun k h => ⟨⟨h.1, h.2.1 _ hm31⟩, h.2.2⟩)
 obtain ⟨a32, cap32, rfl, hts32, hlen32⟩ := hn32.op2
 refine WL.know [(7, pt b31 0), (34, .agg (tcells (Nd.mk 3 Nd.zero 0 0 ([(Nd.mk 6 Nd.zero 0 0 [A]), (Nd.mk 4 Nd.zero 0 0 ([B, (Nd.mk 5 Nd.zero 0 1 [(Nd.mk 6 Nd.zero 0 0 [B])])]))])) (.slice a32 (Nd.mk 3 Nd.zero 0 0 ([(Nd.mk 6 Nd.zero 0 0 [A]), (Nd.mk 4 Nd.zero 0 0 ([B, (Nd.mk 5 Nd.zero 0 1 [(Nd.mk 6 Nd.zero 0 0 [B])])]))])).subs.length cap32)).toArray)] (ag hv31 (ag hv32 (agree_nil _))) ?_
 refine WL.store_box rfl rfl rfl hR31 Ty.agg29 rfl rfl (fun w35 hB34 hR33 => ?_)
 have hzhB34 := hB34.size
 refine WL.dn ?_
 refine WC.cutK (Eq b31) (fun s : Nat × List Value => [(0, .slice axs xs.length capxs), (4, .bool false), (5, pt b10 0), (6, pt b16 0), (7, pt s.1 0)]) (fun s w_ => Row w_ (s.1) (s.2) 29 ∧ NodeL (fun _ => True) w_ (s.2) (Nd.nP A B)) ?_ ?_
 ·skip
  refine sq ?_
  refine WL.fieldAddr rfl rfl Ty.fld29_0 rfl ?_
  have h36 := (hB34.row (hR25.ext hE30) (by omega))
  refine WL.load_fld rfl rfl Ty.flat5 rfl h36 rfl ?_
  cases hc37 : ((B.kind : Int) == 4) with
  | false =>
   refine WL.eql rfl rfl rfl rfl hc37 ?_
   have hp37 := beq_eq_false_iff_ne.1 hc37
   refine mv ?_
   refine WL.fieldAddr rfl rfl Ty.fld29_0 rfl ?_
   refine WL.load_fld rfl rfl Ty.flat5 rfl h36 rfl ?_
   cases hc38 : ((B.kind : Int) == 1) with
   | false =>
    refine WL.eql rfl rfl rfl rfl hc38 ?_
    have hp38 := beq_eq_false_iff_ne.1 hc38
    refine pF ?_
    refine WL.dn ?_
    refine cF ?_
    refine WC.skip' (fun a_ ha => ?_)
    exact ⟨(b31, (tcells (Nd.mk 3 Nd.zero 0 0 ([(Nd.mk 6 Nd.zero 0 0 [A]), (Nd.mk 4 Nd.zero 0 0 ([B, (Nd.mk 5 Nd.zero 0 1 [(Nd.mk 6 Nd.zero 0 0 [B])])]))])) (.slice a32 (Nd.mk 3 Nd.zero 0 0 ([(Nd.mk 6 Nd.zero 0 0 [A]), (Nd.mk 4 Nd.zero 0 0 ([B, (Nd.mk 5 Nd.zero 0 1 [(Nd.mk 6 Nd.zero 0 0 [B])])]))])).subs.length cap32))), ha.weaken (s4 (sr rfl (subReg_nil _))), (Keep.refl _ _), hR33, (by rw [Nd.nP_n (by have := beq_eq_false_iff_ne.1 hc37; omega) (by have := beq_eq_false_iff_ne.1 hc38; omega)]; exact (hn32.bu hB34).dom (fun _ _ => trivial))⟩
   | true =>
    refine WL.eql rfl rfl rfl rfl hc38 ?_
    have hp38 := beq_iff_eq.1 hc38
    refine pF ?_
    refine WL.dn ?_
    refine cT ?_
    have h39 := (hB34.row ((hB26.row hR22 (by omega)).ext hE30) (by omega))
    have h40 := ((h28.ext hE30).bu hB34)
    have h41 := ((h29.ext hE30).bu hB34)
    refine WC.weaken (r' := [(0, .slice axs xs.length capxs), (4, .bool false), (20, .bool false), (5, pt b10 0), (6, pt b16 0), (7, pt b31 0), (42, .bool true)]) (s4 (sr rfl (sr rfl (sr rfl (subReg_nil _))))) ?_
    refine WC.draw 5 [43, 44, 45, 46, 47] [pc (.agg (tcells A (.slice a4 A.subs.length cap4)).toArray), pnode (fun k => b31 ≠ k) (Nd.mk 6 Nd.zero 0 0 [A]), pc (.agg (tcells B (.slice a7 B.subs.length cap7)).toArray), pnode (fun k => b31 ≠ k) (Nd.mk 6 Nd.zero 0 0 [B]), pc (.agg (tcells B (.slice a7 B.subs.length cap7)).toArray)] (by kernel_rfl) (by kernel_rfl) ⟨KW_pc _, KW_pnode _ _, KW_pc _, KW_pnode _ _, KW_pc _, trivial⟩ rfl rfl rfl (sc4 ?_ ?_ ?_ ?_ (sc ?_ (StepsOn.nil _))) ?_
    ·intro σ β w1 hE1 hbi hk
     refine ⟨[], (agree_nil _), ?_⟩
     refine WL.load_box rfl rfl rfl (h39.ext hE1) Ty.agg29 ?_
     exact dq hbi rfl
    ·intro σ β w1 hE1 hbi hk
     have hz1 := hE1.size
     refine ⟨[(43, .agg (tcells A (.slice a4 A.subs.length cap4)).toArray)], (ak hk 0 (agree_nil _)), ?_⟩
     refine WL.call rfl rfl rfl Ty.ent24 (group_ok _ _ _ A (h40.ext hE1)) ?_
     rintro _ w65 ⟨l63, rfl, hr63, hE64⟩
     have hzhE64 := hE64.size
     refine ⟨_, rfl, ?_⟩
     have hn63 := hr63.lt
     obtain ⟨a63, cap63, rfl, hts63, hlen63⟩ := hn63.op2
     exact dqE hbi hE64 ⟨_, rfl, (hr63.lt.dom (by intro k h1; refine ⟨(by replace h1 := h1.1; (try dsimp only at h1); (repeat' first | (guard_hyp h1 : _ ∨ _; refine Or.elim h1 (fun h1 => ?_) (fun h1 => ?_)) | (guard_hyp h1 : _ ∧ _; have hx := h1.2; replace h1 := h1.1)) <;> first | contradiction | omega), ?_, h1.2⟩; replace h1 := h1.1; intro x hxm; have hi := hbi.hi x hxm; have lo := hbi.lo x hxm; (try dsimp only at h1); (repeat' first | (guard_hyp h1 : _ ∨ _; refine Or.elim h1 (fun h1 => ?_) (fun h1 => ?_)) | (guard_hyp h1 : _ ∧ _; have hx := h1.2; replace h1 := h1.1)) <;> first | contradiction | omega | exact hx.1 x hxm))⟩
    ·intro σ β w1 hE1 hbi hk
     refine ⟨[], (agree_nil _), ?_⟩
     refine WL.load_box rfl rfl rfl (h36.ext hE1) Ty.agg29 ?_
     exact dq hbi rfl
    ·intro σ β w1 hE1 hbi hk
     have hz1 := hE1.size
     refine ⟨[(45, .agg (tcells B (.slice a7 B.subs.length cap7)).toArray)], (ak hk 2 (agree_nil _)), ?_⟩
     refine WL.call rfl rfl rfl Ty.ent24 (group_ok _ _ _ B (h41.ext hE1)) ?_
     rintro _ w65 ⟨l63, rfl, hr63, hE64⟩
     have hzhE64 := hE64.size
     refine ⟨_, rfl, ?_⟩
     have hn63 := hr63.lt
     obtain ⟨a63, cap63, rfl, hts63, hlen63⟩ := hn63.op2
     exact dqE hbi hE64 ⟨_, rfl, (hr63.lt.dom (by intro k h1; refine ⟨(by replace h1 := h1.1; (try dsimp only at h1); (repeat' first | (guard_hyp h1 : _ ∨ _; refine Or.elim h1 (fun h1 => ?_) (fun h1 => ?_)) | (guard_hyp h1 : _ ∧ _; have hx := h1.2; replace h1 := h1.1)) <;> first | contradiction | omega), ?_, h1.2⟩; replace h1 := h1.1; intro x hxm; have hi := hbi.hi x hxm; have lo := hbi.lo x hxm; (try dsimp only at h1); (repeat' first | (guard_hyp h1 : _ ∨ _; refine Or.elim h1 (fun h1 => ?_) (fun h1 => ?_)) | (guard_hyp h1 : _ ∧ _; have hx := h1.2; replace h1 := h1.1)) <;> first | contradiction | omega | exact hx.1 x hxm))⟩
    ·intro σ β w1 hE1 hbi hk
     refine ⟨[], (agree_nil _), ?_⟩
     refine WL.load_box rfl rfl rfl (h36.ext hE1) Ty.agg29 ?_
     exact dq hbi rfl
    intro σ β w42 hE42 hbi42 hk
    have hz42 := hE42.size
    have hbi := hbi42
    obtain ⟨_, hv43, l43, rfl, hn43⟩ := hk 1 (by decide) _ _ rfl rfl
    have hn43 := hn43.lt
    obtain ⟨a43, cap43, rfl, hts43, hlen43⟩ := hn43.op2
    obtain ⟨_, hv44, l44, rfl, hn44⟩ := hk 3 (by decide) _ _ rfl rfl
    have hn44 := hn44.lt
    obtain ⟨a44, cap44, rfl, hts44, hlen44⟩ := hn44.op2
    refine WL.know [(44, .agg (tcells (Nd.mk 6 Nd.zero 0 0 [A]) (.slice a43 (Nd.mk 6 Nd.zero 0 0 [A]).subs.length cap43)).toArray), (46, .agg (tcells (Nd.mk 6 Nd.zero 0 0 [B]) (.slice a44 (Nd.mk 6 Nd.zero 0 0 [B]).subs.length cap44)).toArray), (47, .agg (tcells B (.slice a7 B.subs.length cap7)).toArray)] (ag hv43 (ag hv44 (aj hk 4 (agree_nil _)))) ?_
    refine WL.call rfl rfl rfl Ty.ent24 (group_ok _ _ _ B (h41.ext hE42)) ?_
    rintro _ w48 ⟨l46, rfl, hr46, hE47⟩
    have hzhE47 := hE47.size
    refine ⟨_, rfl, ?_⟩
    have hn46 := hr46.lt
    obtain ⟨a46, cap46, rfl, hts46, hlen46⟩ := hn46.op2
    refine WL.buildSlice (vs := [.agg (tcells (Nd.mk 6 Nd.zero 0 0 [A]) (.slice a43 (Nd.mk 6 Nd.zero 0 0 [A]).subs.length cap43)).toArray, .agg (tcells (Nd.mk 6 Nd.zero 0 0 [B]) (.slice a44 (Nd.mk 6 Nd.zero 0 0 [B]).subs.length cap44)).toArray, .agg (tcells (Nd.mk 6 Nd.zero 0 0 [B]) (.slice a46 (Nd.mk 6 Nd.zero 0 0 [B]).subs.length cap46)).toArray]) (cells := (tcells (Nd.mk 6 Nd.zero 0 0 [A]) (.slice a43 (Nd.mk 6 Nd.zero 0 0 [A]).subs.length cap43) ++ tcells (Nd.mk 6 Nd.zero 0 0 [B]) (.slice a44 (Nd.mk 6 Nd.zero 0 0 [B]).subs.length cap44) ++ tcells (Nd.mk 6 Nd.zero 0 0 [B]) (.slice a46 (Nd.mk 6 Nd.zero 0 0 [B]).subs.length cap46))) rfl rfl Ty.slice27 Ty.zero29 rfl rfl rfl rfl rfl rfl (fun b49 w54 hb50 hE53 hs51 hR52 => ?_)
    have hts49 := (NodesV.lit (n := 3) (ts := [(Nd.mk 6 Nd.zero 0 0 [A]), (Nd.mk 6 Nd.zero 0 0 [B]), (Nd.mk 6 Nd.zero 0 0 [B])]) hR52 (RowsL.cons ((hn43.ext hE47).ext hE53) (RowsL.cons ((hn44.ext hE47).ext hE53) (RowsL.cons (hn46.ext hE53) (RowsL.nil' _)))) rfl rfl (by decide)).lt
    refine WL.call rfl rfl rfl Ty.ent21 (cat_ok _ _ _ _ ([(Nd.mk 6 Nd.zero 0 0 [A]), (Nd.mk 6 Nd.zero 0 0 [B]), (Nd.mk 6 Nd.zero 0 0 [B])]) hts49) ?_
    rintro _ w57 ⟨l55, rfl, hr55, hE56⟩
    have hzhE56 := hE56.size
    refine ⟨_, rfl, ?_⟩
    have hn55 := hr55.lt
    obtain ⟨a55, cap55, rfl, hts55, hlen55⟩ := hn55.op2
    have h60 := ((((hR33.ext hE42).ext hE47).ext hE53).ext hE56)
    refine WL.store_box rfl rfl rfl h60 Ty.agg29 rfl rfl (fun w61 hB59 hR58 => ?_)
    have hzhB59 := hB59.size
    refine WL.nil (fun a_ ha => ?_)
    exact ⟨(b31, (tcells (Nd.mk 3 Nd.zero 0 0 ([(Nd.mk 6 Nd.zero 0 0 [A]), (Nd.mk 6 Nd.zero 0 0 [B]), (Nd.mk 6 Nd.zero 0 0 [B])])) (.slice a55 (Nd.mk 3 Nd.zero 0 0 ([(Nd.mk 6 Nd.zero 0 0 [A]), (Nd.mk 6 Nd.zero 0 0 [B]), (Nd.mk 6 Nd.zero 0 0 [B])])).subs.length cap55))), ha.weaken (s4 (sr rfl (subReg_nil _))), (((((hE42.keep _).trans (hE47.keep _)).trans (hE53.keep _)).trans (hE56.keep _)).trans (hB59.keep (by simp))), hR58, (by rw [Nd.nP_y (by have := beq_iff_eq.1 hc38; omega)]; exact (hn55.bu hB59).dom (fun _ _ => trivial))⟩
  | true =>
   refine WL.eql rfl rfl rfl rfl hc37 ?_
   have hp37 := beq_iff_eq.1 hc37
   refine mv ?_
   refine ps ?_
   refine ps ?_
   refine ps ?_
   refine pT ?_
   refine WL.dn ?_
   refine cT ?_
   have h38 := (hB34.row ((hB26.row hR22 (by omega)).ext hE30) (by omega))
   have h39 := ((h28.ext hE30).bu hB34)
   have h40 := ((h29.ext hE30).bu hB34)
   refine WC.weaken (r' := [(0, .slice axs xs.length capxs), (4, .bool false), (20, .bool false), (5, pt b10 0), (6, pt b16 0), (7, pt b31 0), (42, .bool true)]) (s4 (sr rfl (sr rfl (sr rfl (subReg_nil _))))) ?_
   refine WC.draw 5 [43, 44, 45, 46, 47] [pc (.agg (tcells A (.slice a4 A.subs.length cap4)).toArray), pnode (fun k => b31 ≠ k) (Nd.mk 6 Nd.zero 0 0 [A]), pc (.agg (tcells B (.slice a7 B.subs.length cap7)).toArray), pnode (fun k => b31 ≠ k) (Nd.mk 6 Nd.zero 0 0 [B]), pc (.agg (tcells B (.slice a7 B.subs.length cap7)).toArray)] (by kernel_rfl) (by kernel_rfl) ⟨KW_pc _, KW_pnode _ _, KW_pc _, KW_pnode _ _, KW_pc _, trivial⟩ rfl rfl rfl (sc4 ?_ ?_ ?_ ?_ (sc ?_ (StepsOn.nil _))) ?_
   ·intro σ β w1 hE1 hbi hk
    refine ⟨[], (agree_nil _), ?_⟩
    refine WL.load_box rfl rfl rfl (h38.ext hE1) Ty.agg29 ?_
    exact dq hbi rfl
   ·intro σ β w1 hE1 hbi hk
    have hz1 := hE1.size
    refine ⟨[(43, .agg (tcells A (.slice a4 A.subs.length cap4)).toArray)], (ak hk 0 (agree_nil _)), ?_⟩
    refine WL.call rfl rfl rfl Ty.ent24 (group_ok _ _ _ A (h39.ext hE1)) ?_
    rintro _ w64 ⟨l62, rfl, hr62, hE63⟩
    have hzhE63 := hE63.size
    refine ⟨_, rfl, ?_⟩
    have hn62 := hr62.lt
    obtain ⟨a62, cap62, rfl, hts62, hlen62⟩ := hn62.op2
    exact dqE hbi hE63 ⟨_, rfl, (hr62.lt.dom (by intro k h1; refine ⟨(by replace h1 := h1.1; (try dsimp only at h1); (repeat' first | (guard_hyp h1 : _ ∨ _; refine Or.elim h1 (fun h1 => ?_) (fun h1 => ?_)) | (guard_hyp h1 : _ ∧ _; have hx := h1.2; replace h1 := h1.1)) <;> first | contradiction | omega), ?_, h1.2⟩; replace h1 := h1.1; intro x hxm; have hi := hbi.hi x hxm; have lo := hbi.lo x hxm; (try dsimp only at h1); (repeat' first | (guard_hyp h1 : _ ∨ _; refine Or.elim h1 (fun h1 => ?_) (fun h1 => ?_)) | (guard_hyp h1 : _ ∧ _; have hx := h1.2; replace h1 := h1.1)) <;> first | contradiction | omega | exact hx.1 x hxm))⟩
   ·intro σ β w1 hE1 hbi hk
    refine ⟨[], (agree_nil _), ?_⟩
    refine WL.load_box rfl rfl rfl (h36.ext hE1) Ty.agg29 ?_
    exact dq hbi rfl
   ·intro σ β w1 hE1 hbi hk
    have hz1 := hE1.size
    refine ⟨[(45, .agg (tcells B (.slice a7 B.subs.length cap7)).toArray)], (ak hk 2 (agree_nil _)), ?_⟩
    refine WL.call rfl rfl rfl Ty.ent24 (group_ok _ _ _ B (h40.ext hE1)) ?_
    rintro _ w64 ⟨l62, rfl, hr62, hE63⟩
    have hzhE63 := hE63.size
    refine ⟨_, rfl, ?_⟩
    have hn62 := hr62.lt
    obtain ⟨a62, cap62, rfl, hts62, hlen62⟩ := hn62.op2
    exact dqE hbi hE63 ⟨_, rfl, (hr62.lt.dom (by intro k h1; refine ⟨(by replace h1 := h1.1; (try dsimp only at h1); (repeat' first | (guard_hyp h1 : _ ∨ _; refine Or.elim h1 (fun h1 => ?_) (fun h1 => ?_)) | (guard_hyp h1 : _ ∧ _; have hx := h1.2; replace h1 := h1.1)) <;> first | contradiction | omega), ?_, h1.2⟩; replace h1 := h1.1; intro x hxm; have hi := hbi.hi x hxm; have lo := hbi.lo x hxm; (try dsimp only at h1); (repeat' first | (guard_hyp h1 : _ ∨ _; refine Or.elim h1 (fun h1 => ?_) (fun h1 => ?_)) | (guard_hyp h1 : _ ∧ _; have hx := h1.2; replace h1 := h1.1)) <;> first | contradiction | omega | exact hx.1 x hxm))⟩
   ·intro σ β w1 hE1 hbi hk
    refine ⟨[], (agree_nil _), ?_⟩
    refine WL.load_box rfl rfl rfl (h36.ext hE1) Ty.agg29 ?_
    exact dq hbi rfl
   intro σ β w41 hE41 hbi41 hk
   have hz41 := hE41.size
   have hbi := hbi41
   obtain ⟨_, hv42, l42, rfl, hn42⟩ := hk 1 (by decide) _ _ rfl rfl
   have hn42 := hn42.lt
   obtain ⟨a42, cap42, rfl, hts42, hlen42⟩ := hn42.op2
   obtain ⟨_, hv43, l43, rfl, hn43⟩ := hk 3 (by decide) _ _ rfl rfl
   have hn43 := hn43.lt
   obtain ⟨a43, cap43, rfl, hts43, hlen43⟩ := hn43.op2
   refine WL.know [(44, .agg (tcells (Nd.mk 6 Nd.zero 0 0 [A]) (.slice a42 (Nd.mk 6 Nd.zero 0 0 [A]).subs.length cap42)).toArray), (46, .agg (tcells (Nd.mk 6 Nd.zero 0 0 [B]) (.slice a43 (Nd.mk 6 Nd.zero 0 0 [B]).subs.length cap43)).toArray), (47, .agg (tcells B (.slice a7 B.subs.length cap7)).toArray)] (ag hv42 (ag hv43 (aj hk 4 (agree_nil _)))) ?_
   refine WL.call rfl rfl rfl Ty.ent24 (group_ok _ _ _ B (h40.ext hE41)) ?_
   rintro _ w47 ⟨l45, rfl, hr45, hE46⟩
   have hzhE46 := hE46.size
   refine ⟨_, rfl, ?_⟩
   have hn45 := hr45.lt
   obtain ⟨a45, cap45, rfl, hts45, hlen45⟩ := hn45.op2
   refine WL.buildSlice (vs := [.agg (tcells (Nd.mk 6 Nd.zero 0 0 [A]) (.slice a42 (Nd.mk 6 Nd.zero 0 0 [A]).subs.length cap42)).toArray, .agg (tcells (Nd.mk 6 Nd.zero 0 0 [B]) (.slice a43 (Nd.mk 6 Nd.zero 0 0 [B]).subs.length cap43)).toArray, .agg (tcells (Nd.mk 6 Nd.zero 0 0 [B]) (.slice a45 (Nd.mk 6 Nd.zero 0 0 [B]).subs.length cap45)).toArray]) (cells := (tcells (Nd.mk 6 Nd.zero 0 0 [A]) (.slice a42 (Nd.mk 6 Nd.zero 0 0 [A]).subs.length cap42) ++ tcells (Nd.mk 6 Nd.zero 0 0 [B]) (.slice a43 (Nd.mk 6 Nd.zero 0 0 [B]).subs.length cap43) ++ tcells (Nd.mk 6 Nd.zero 0 0 [B]) (.slice a45 (Nd.mk 6 Nd.zero 0 0 [B]).subs.length cap45))) rfl rfl Ty.slice27 Ty.zero29 rfl rfl rfl rfl rfl rfl (fun b48 w53 hb49 hE52 hs50 hR51 => ?_)
   have hts48 := (NodesV.lit (n := 3) (ts := [(Nd.mk 6 Nd.zero 0 0 [A]), (Nd.mk 6 Nd.zero 0 0 [B]), (Nd.mk 6 Nd.zero 0 0 [B])]) hR51 (RowsL.cons ((hn42.ext hE46).ext hE52) (RowsL.cons ((hn43.ext hE46).ext hE52) (RowsL.cons (hn45.ext hE52) (RowsL.nil' _)))) rfl rfl (by decide)).lt
   refine WL.call rfl rfl rfl Ty.ent21 (cat_ok _ _ _ _ ([(Nd.mk 6 Nd.zero 0 0 [A]), (Nd.mk 6 Nd.zero 0 0 [B]), (Nd.mk 6 Nd.zero 0 0 [B])]) hts48) ?_
   rintro _ w56 ⟨l54, rfl, hr54, hE55⟩
   have hzhE55 := hE55.size
   refine ⟨_, rfl, ?_⟩
   have hn54 := hr54.lt
   obtain ⟨a54, cap54, rfl, hts54, hlen54⟩ := hn54.op2
   have h59 := ((((hR33.ext hE41).ext hE46).ext hE52).ext hE55)
   refine WL.store_box rfl rfl rfl h59 Ty.agg29 rfl rfl (fun w60 hB58 hR57 => ?_)
   have hzhB58 := hB58.size
   refine WL.nil (fun a_ ha => ?_)
   exact ⟨(b31, (tcells (Nd.mk 3 Nd.zero 0 0 ([(Nd.mk 6 Nd.zero 0 0 [A]), (Nd.mk 6 Nd.zero 0 0 [B]), (Nd.mk 6 Nd.zero 0 0 [B])])) (.slice a54 (Nd.mk 3 Nd.zero 0 0 ([(Nd.mk 6 Nd.zero 0 0 [A]), (Nd.mk 6 Nd.zero 0 0 [B]), (Nd.mk 6 Nd.zero 0 0 [B])])).subs.length cap54))), ha.weaken (s4 (sr rfl (subReg_nil _))), (((((hE41.keep _).trans (hE46.keep _)).trans (hE52.keep _)).trans (hE55.keep _)).trans (hB58.keep (by simp))), hR57, (by rw [Nd.nP_y (by have := beq_iff_eq.1 hc37; omega)]; exact (hn54.bu hB58).dom (fun _ _ => trivial))⟩
 rintro ⟨b36, l36⟩ w38 hE37 ⟨hR36, hn36⟩
 have hzhE37 := hE37.size
 dsimp only at *
 have hn36 := hn36.lt
 have hbl36 := hR36.lt
 obtain ⟨a36, cap36, rfl, hts36, hlen36⟩ := hn36.op2
 refine WC.weaken (r' := [(0, .slice axs xs.length capxs), (4, .bool false), (5, pt b10 0), (6, pt b16 0), (7, pt b36 0)]) (s4 (sr rfl (subReg_nil _))) ?_
 refine WC.seqk ?_
 refine WC.seqk ?_
 have h39 := (hE37.row (hB34.row ((hB26.row hR22 (by omega)).ext hE30) (by omega)) (by omega))
 have h40 := (hE37.node ((h28.ext hE30).bu hB34) (by intro k h1 h2; (try dsimp only at h1); (repeat' first | (guard_hyp h1 : _ ∨ _; refine Or.elim h1 (fun h1 => ?_) (fun h1 => ?_)) | (guard_hyp h1 : _ ∧ _; have hx := h1.2; replace h1 := h1.1)) <;> first | contradiction | omega))
 have h41 := (hE37.row (hB34.row (hR25.ext hE30) (by omega)) (by omega))
 have h42 := (hE37.node ((h29.ext hE30).bu hB34) (by intro k h1 h2; (try dsimp only at h1); (repeat' first | (guard_hyp h1 : _ ∨ _; refine Or.elim h1 (fun h1 => ?_) (fun h1 => ?_)) | (guard_hyp h1 : _ ∧ _; have hx := h1.2; replace h1 := h1.1)) <;> first | contradiction | omega))
 refine WC.weaken (r' := [(0, .slice axs xs.length capxs), (4, .bool false), (5, pt b10 0), (6, pt b16 0), (7, pt b36 0)]) (s4 (sr rfl (subReg_nil _))) ?_
 refine WC.draw 38 [51, 52, 53, 54, 55, 56, 57, 58, 59, 60, 61, 62, 63, 64, 65, 66, 67, 68, 69, 70, 71, 72, 73, 74, 75, 76, 77, 78, 79, 80, 81, 82, 83, 84, 85, 86, 87, 88] [pc (.agg (tcells (Nd.nP A B) (.slice a36 (Nd.nP A B).subs.length cap36)).toArray), pc (.bool true), pc (.bool false), pc (.bool false), pc (.agg (tcells (Nd.nP A B) (.slice a36 (Nd.nP A B).subs.length cap36)).toArray), pc (.int .i64 (Nd.sizes (Nd.nP A B))), pc (.agg (tcells A (.slice a4 A.subs.length cap4)).toArray), pc (.int .i64 (Nd.sizes A)), pc (.agg (tcells B (.slice a7 B.subs.length cap7)).toArray), pc (.int .i64 (Nd.sizes B)), pc (.int .i64 (2 * (Nd.sizes B))), pc (.int .i64 ((Nd.sizes A) + (2 * (Nd.sizes B)))), pc (.int .i64 (((Nd.sizes A) + (2 * (Nd.sizes B))) + 3)), pc (.bool false), pc (.bool false), pc (.bool false), pc (.agg (tcells (Nd.nP A B) (.slice a36 (Nd.nP A B).subs.length cap36)).toArray), pc (.int .i64 (Nd.groups (Nd.nP A B))), pc (.agg (tcells A (.slice a4 A.subs.length cap4)).toArray), pc (.int .i64 (Nd.groups A)), pc (.agg (tcells B (.slice a7 B.subs.length cap7)).toArray), pc (.int .i64 (Nd.groups B)), pc (.int .i64 (2 * (Nd.groups B))), pc (.int .i64 ((Nd.groups A) + (2 * (Nd.groups B)))), pc (.int .i64 (((Nd.groups A) + (2 * (Nd.groups B))) + 2)), pc (.bool false), pc (.bool false), pc (.bool false), pc (.agg (tcells (Nd.nP A B) (.slice a36 (Nd.nP A B).subs.length cap36)).toArray), pc (.int .i64 (Nd.posns (Nd.nP A B))), pc (.agg (tcells A (.slice a4 A.subs.length cap4)).toArray), pc (.int .i64 (Nd.posns A)), pc (.agg (tcells B (.slice a7 B.subs.length cap7)).toArray), pc (.int .i64 (Nd.posns B)), pc (.int .i64 (2 * (Nd.posns B))), pc (.int .i64 ((Nd.posns A) + (2 * (Nd.posns B)))), pc (.bool false), pc (.bool false)] (by kernel_rfl) (by kernel_rfl) (k4 (k4 (k4 (k4 (k4 (k4 (k4 (k4 (k4 ⟨KW_pc _, KW_pc _, trivial⟩))))))))) rfl rfl rfl (sc4 ?_ ?_ ?_ ?_ (sc4 ?_ ?_ ?_ ?_ (sc4 ?_ ?_ ?_ ?_ (sc4 ?_ ?_ ?_ ?_ (sc4 ?_ ?_ ?_ ?_ (sc4 ?_ ?_ ?_ ?_ (sc4 ?_ ?_ ?_ ?_ (sc4 ?_ ?_ ?_ ?_ (sc4 ?_ ?_ ?_ ?_ (sc ?_ (sc ?_ (StepsOn.nil _)))))))))))) ?_
 ·intro σ β w1 hE1 hbi hk
  refine ⟨[], (agree_nil _), ?_⟩
  refine WL.load_box rfl rfl rfl (hR36.ext hE1) Ty.agg29 ?_
  exact dq hbi rfl
 ·intro σ β w1 hE1 hbi hk
  refine ⟨[(51, .agg (tcells (Nd.nP A B) (.slice a36 (Nd.nP A B).subs.length cap36)).toArray)], (ak hk 0 (agree_nil _)), ?_⟩
  refine WL.call rfl rfl rfl Ty.ent12 (clean_ok _ _ _ _ (hn36.ext hE1)) ?_
  rintro _ w65 ⟨he, hE64⟩
  have hq : (Nd.clean (Nd.nP A B)) = true := hnf.clean
  rw [hq] at he
  subst he
  clear hq
  refine ⟨_, rfl, ?_⟩
  exact dqE hbi hE64 rfl
 ·intro σ β w1 hE1 hbi hk
  refine ⟨[(52, .bool true)], (ak hk 1 (agree_nil _)), ?_⟩
  refine WL.not rfl rfl rfl ?_
  exact dq hbi rfl
 ·intro σ β w1 hE1 hbi hk
  refine ⟨[(53, .bool false)], (ak hk 2 (agree_nil _)), ?_⟩
  refine mv ?_
  exact dq hbi rfl
 ·intro σ β w1 hE1 hbi hk
  refine ⟨[(54, .bool false)], (ak hk 3 (agree_nil _)), ?_⟩
  refine WL.load_box rfl rfl rfl (hR36.ext hE1) Ty.agg29 ?_
  exact dq hbi rfl
 ·intro σ β w1 hE1 hbi hk
  refine ⟨[(54, .bool false), (55, .agg (tcells (Nd.nP A B) (.slice a36 (Nd.nP A B).subs.length cap36)).toArray)], (ak hk 3 (ak hk 4 (agree_nil _))), ?_⟩
  refine WL.call rfl rfl rfl Ty.ent16 (size_ok _ _ _ _ (hn36.ext hE1)) ?_
  rintro _ w66 ⟨rfl, hE65⟩
  refine ⟨_, rfl, ?_⟩
  exact dqE hbi hE65 rfl
 ·intro σ β w1 hE1 hbi hk
  refine ⟨[(54, .bool false)], (ak hk 3 (agree_nil _)), ?_⟩
  refine WL.load_box rfl rfl rfl (h39.ext hE1) Ty.agg29 ?_
  exact dq hbi rfl
 ·intro σ β w1 hE1 hbi hk
  refine ⟨[(54, .bool false), (57, .agg (tcells A (.slice a4 A.subs.length cap4)).toArray)], (ak hk 3 (ak hk 6 (agree_nil _))), ?_⟩
  refine WL.call rfl rfl rfl Ty.ent16 (size_ok _ _ _ _ (h40.ext hE1)) ?_
  rintro _ w66 ⟨rfl, hE65⟩
  refine ⟨_, rfl, ?_⟩
  exact dqE hbi hE65 rfl
 ·intro σ β w1 hE1 hbi hk
  refine ⟨[(54, .bool false)], (ak hk 3 (agree_nil _)), ?_⟩
  refine WL.load_box rfl rfl rfl (h41.ext hE1) Ty.agg29 ?_
  exact dq hbi rfl
 ·intro σ β w1 hE1 hbi hk
  refine ⟨[(54, .bool false), (59, .agg (tcells B (.slice a7 B.subs.length cap7)).toArray)], (ak hk 3 (ak hk 8 (agree_nil _))), ?_⟩
  refine WL.call rfl rfl rfl Ty.ent16 (size_ok _ _ _ _ (h42.ext hE1)) ?_
  rintro _ w66 ⟨rfl, hE65⟩
  refine ⟨_, rfl, ?_⟩
  exact dqE hbi hE65 rfl
 ·intro σ β w1 hE1 hbi hk
  have hz1 := hE1.size
  refine ⟨[(54, .bool false), (60, .int .i64 (Nd.sizes B))], (ak hk 3 (ak hk 9 (agree_nil _))), ?_⟩
  refine WL.mul (v := 2 * (Nd.sizes B)) rfl rfl rfl rfl (IntWalk.i64_in _ (by omega)) ?_
  exact dq hbi rfl
 ·intro σ β w1 hE1 hbi hk
  have hz1 := hE1.size
  refine ⟨[(54, .bool false), (58, .int .i64 (Nd.sizes A)), (61, .int .i64 (2 * (Nd.sizes B)))], (ak hk 3 (ak hk 7 (ak hk 10 (agree_nil _)))), ?_⟩
  refine WL.add (v := (Nd.sizes A) + (2 * (Nd.sizes B))) rfl rfl rfl rfl (IntWalk.i64_in _ (by omega)) ?_
  exact dq hbi rfl
 ·intro σ β w1 hE1 hbi hk
  have hz1 := hE1.size
  refine ⟨[(54, .bool false), (62, .int .i64 ((Nd.sizes A) + (2 * (Nd.sizes B))))], (ak hk 3 (ak hk 11 (agree_nil _))), ?_⟩
  refine WL.add (v := ((Nd.sizes A) + (2 * (Nd.sizes B))) + 3) rfl rfl rfl rfl (IntWalk.i64_in _ (by omega)) ?_
  exact dq hbi rfl
 ·intro σ β w1 hE1 hbi hk
  have hz1 := hE1.size
  refine ⟨[(54, .bool false), (56, .int .i64 (Nd.sizes (Nd.nP A B))), (63, .int .i64 (((Nd.sizes A) + (2 * (Nd.sizes B))) + 3))], (ak hk 3 (ak hk 5 (ak hk 12 (agree_nil _)))), ?_⟩
  refine WL.lss (b := false) rfl rfl rfl rfl (decide_eq_false (by omega)) ?_
  exact dq hbi rfl
 ·intro σ β w1 hE1 hbi hk
  refine ⟨[(54, .bool false), (64, .bool false)], (ak hk 3 (ak hk 13 (agree_nil _))), ?_⟩
  refine pF ?_
  exact dq hbi rfl
 ·intro σ β w1 hE1 hbi hk
  refine ⟨[(65, .bool false)], (ak hk 14 (agree_nil _)), ?_⟩
  refine mv ?_
  exact dq hbi rfl
 ·intro σ β w1 hE1 hbi hk
  refine ⟨[(66, .bool false)], (ak hk 15 (agree_nil _)), ?_⟩
  refine WL.load_box rfl rfl rfl (hR36.ext hE1) Ty.agg29 ?_
  exact dq hbi rfl
 ·intro σ β w1 hE1 hbi hk
  refine ⟨[(66, .bool false), (67, .agg (tcells (Nd.nP A B) (.slice a36 (Nd.nP A B).subs.length cap36)).toArray)], (ak hk 15 (ak hk 16 (agree_nil _))), ?_⟩
  refine WL.call rfl rfl rfl Ty.ent17 (groups_ok _ _ _ _ (hn36.ext hE1)) ?_
  rintro _ w66 ⟨rfl, hE65⟩
  refine ⟨_, rfl, ?_⟩
  exact dqE hbi hE65 rfl
 ·intro σ β w1 hE1 hbi hk
  refine ⟨[(66, .bool false)], (ak hk 15 (agree_nil _)), ?_⟩
  refine WL.load_box rfl rfl rfl (h39.ext hE1) Ty.agg29 ?_
  exact dq hbi rfl
 ·intro σ β w1 hE1 hbi hk
  refine ⟨[(66, .bool false), (69, .agg (tcells A (.slice a4 A.subs.length cap4)).toArray)], (ak hk 15 (ak hk 18 (agree_nil _))), ?_⟩
  refine WL.call rfl rfl rfl Ty.ent17 (groups_ok _ _ _ _ (h40.ext hE1)) ?_
  rintro _ w66 ⟨rfl, hE65⟩
  refine ⟨_, rfl, ?_⟩
  exact dqE hbi hE65 rfl
 ·intro σ β w1 hE1 hbi hk
  refine ⟨[(66, .bool false)], (ak hk 15 (agree_nil _)), ?_⟩
  refine WL.load_box rfl rfl rfl (h41.ext hE1) Ty.agg29 ?_
  exact dq hbi rfl
 ·intro σ β w1 hE1 hbi hk
  refine ⟨[(66, .bool false), (71, .agg (tcells B (.slice a7 B.subs.length cap7)).toArray)], (ak hk 15 (ak hk 20 (agree_nil _))), ?_⟩
  refine WL.call rfl rfl rfl Ty.ent17 (groups_ok _ _ _ _ (h42.ext hE1)) ?_
  rintro _ w66 ⟨rfl, hE65⟩
  refine ⟨_, rfl, ?_⟩
  exact dqE hbi hE65 rfl
 ·intro σ β w1 hE1 hbi hk
  have hz1 := hE1.size
  refine ⟨[(66, .bool false), (72, .int .i64 (Nd.groups B))], (ak hk 15 (ak hk 21 (agree_nil _))), ?_⟩
  refine WL.mul (v := 2 * (Nd.groups B)) rfl rfl rfl rfl (IntWalk.i64_in _ (by omega)) ?_
  exact dq hbi rfl
 ·intro σ β w1 hE1 hbi hk
  have hz1 := hE1.size
  refine ⟨[(66, .bool false), (70, .int .i64 (Nd.groups A)), (73, .int .i64 (2 * (Nd.groups B)))], (ak hk 15 (ak hk 19 (ak hk 22 (agree_nil _)))), ?_⟩
  refine WL.add (v := (Nd.groups A) + (2 * (Nd.groups B))) rfl rfl rfl rfl (IntWalk.i64_in _ (by omega)) ?_
  exact dq hbi rfl
 ·intro σ β w1 hE1 hbi hk
  have hz1 := hE1.size
  refine ⟨[(66, .bool false), (74, .int .i64 ((Nd.groups A) + (2 * (Nd.groups B))))], (ak hk 15 (ak hk 23 (agree_nil _))), ?_⟩
  refine WL.add (v := ((Nd.groups A) + (2 * (Nd.groups B))) + 2) rfl rfl rfl rfl (IntWalk.i64_in _ (by omega)) ?_
  exact dq hbi rfl
 ·intro σ β w1 hE1 hbi hk
  have hz1 := hE1.size
  refine ⟨[(66, .bool false), (68, .int .i64 (Nd.groups (Nd.nP A B))), (75, .int .i64 (((Nd.groups A) + (2 * (Nd.groups B))) + 2))], (ak hk 15 (ak hk 17 (ak hk 24 (agree_nil _)))), ?_⟩
  refine WL.lss (b := false) rfl rfl rfl rfl (decide_eq_false (by omega)) ?_
  exact dq hbi rfl
 ·intro σ β w1 hE1 hbi hk
  refine ⟨[(66, .bool false), (76, .bool false)], (ak hk 15 (ak hk 25 (agree_nil _))), ?_⟩
  refine pF ?_
  exact dq hbi rfl
 ·intro σ β w1 hE1 hbi hk
  refine ⟨[(77, .bool false)], (ak hk 26 (agree_nil _)), ?_⟩
  refine mv ?_
  exact dq hbi rfl
 ·intro σ β w1 hE1 hbi hk
  refine ⟨[(78, .bool false)], (ak hk 27 (agree_nil _)), ?_⟩
  refine WL.load_box rfl rfl rfl (hR36.ext hE1) Ty.agg29 ?_
  exact dq hbi rfl
 ·intro σ β w1 hE1 hbi hk
  refine ⟨[(78, .bool false), (79, .agg (tcells (Nd.nP A B) (.slice a36 (Nd.nP A B).subs.length cap36)).toArray)], (ak hk 27 (ak hk 28 (agree_nil _))), ?_⟩
  refine WL.call rfl rfl rfl Ty.ent15 (Positions_ok _ _ _ _ (hn36.ext hE1)) ?_
  rintro _ w66 ⟨rfl, hE65⟩
  refine ⟨_, rfl, ?_⟩
  exact dqE hbi hE65 rfl
 ·intro σ β w1 hE1 hbi hk
  refine ⟨[(78, .bool false)], (ak hk 27 (agree_nil _)), ?_⟩
  refine WL.load_box rfl rfl rfl (h39.ext hE1) Ty.agg29 ?_
  exact dq hbi rfl
 ·intro σ β w1 hE1 hbi hk
  refine ⟨[(78, .bool false), (81, .agg (tcells A (.slice a4 A.subs.length cap4)).toArray)], (ak hk 27 (ak hk 30 (agree_nil _))), ?_⟩
  refine WL.call rfl rfl rfl Ty.ent15 (Positions_ok _ _ _ _ (h40.ext hE1)) ?_
  rintro _ w66 ⟨rfl, hE65⟩
  refine ⟨_, rfl, ?_⟩
  exact dqE hbi hE65 rfl
 ·intro σ β w1 hE1 hbi hk
  refine ⟨[(78, .bool false)], (ak hk 27 (agree_nil _)), ?_⟩
  refine WL.load_box rfl rfl rfl (h41.ext hE1) Ty.agg29 ?_
  exact dq hbi rfl
 ·intro σ β w1 hE1 hbi hk
  refine ⟨[(78, .bool false), (83, .agg (tcells B (.slice a7 B.subs.length cap7)).toArray)], (ak hk 27 (ak hk 32 (agree_nil _))), ?_⟩
  refine WL.call rfl rfl rfl Ty.ent15 (Positions_ok _ _ _ _ (h42.ext hE1)) ?_
  rintro _ w66 ⟨rfl, hE65⟩
  refine ⟨_, rfl, ?_⟩
  exact dqE hbi hE65 rfl
 ·intro σ β w1 hE1 hbi hk
  have hz1 := hE1.size
  refine ⟨[(78, .bool false), (84, .int .i64 (Nd.posns B))], (ak hk 27 (ak hk 33 (agree_nil _))), ?_⟩
  refine WL.mul (v := 2 * (Nd.posns B)) rfl rfl rfl rfl (IntWalk.i64_in _ (by omega)) ?_
  exact dq hbi rfl
 ·intro σ β w1 hE1 hbi hk
  have hz1 := hE1.size
  refine ⟨[(78, .bool false), (82, .int .i64 (Nd.posns A)), (85, .int .i64 (2 * (Nd.posns B)))], (ak hk 27 (ak hk 31 (ak hk 34 (agree_nil _)))), ?_⟩
  refine WL.add (v := (Nd.posns A) + (2 * (Nd.posns B))) rfl rfl rfl rfl (IntWalk.i64_in _ (by omega)) ?_
  exact dq hbi rfl
 ·intro σ β w1 hE1 hbi hk
  have hz1 := hE1.size
  refine ⟨[(78, .bool false), (80, .int .i64 (Nd.posns (Nd.nP A B))), (86, .int .i64 ((Nd.posns A) + (2 * (Nd.posns B))))], (ak hk 27 (ak hk 29 (ak hk 35 (agree_nil _)))), ?_⟩
  refine WL.neq (b := false) rfl rfl rfl rfl (bne_eq_false_iff_eq.2 (by omega)) ?_
  exact dq hbi rfl
 ·intro σ β w1 hE1 hbi hk
  refine ⟨[(78, .bool false), (87, .bool false)], (ak hk 27 (ak hk 36 (agree_nil _))), ?_⟩
  refine pF ?_
  exact dq hbi rfl
 intro σ β w43 hE43 hbi43 hk
 have hz43 := hE43.size
 have hbi := hbi43
 refine WL.know [(88, .bool false)] (aj hk 37 (agree_nil _)) ?_
 refine WL.dn ?_
 refine cF ?_
 refine WC.sk ?_
 refine sq ?_
 refine WL.alloc rfl rfl Ty.zero26 rfl (fun b45 w50 hb46 hE49 hs47 hR48 => ?_)
 refine WL.dn ?_
 refine sq ?_
 refine asg ?_
 refine WL.dn ?_
 refine WC.seqk ?_
 refine WC.seqk ?_
 refine WC.cutR (fun s : Value => [(0, .slice axs xs.length capxs), (4, .bool false), (5, pt b10 0), (7, pt b36 0), (88, .bool false), (8, pt b45 0), (9, .slice none 0 0), (93, s), (94, .int .i64 ((Nd.setsOf A ++ Nd.setsOf B).length : Int)), (95, .int .i64 0)]) (fun s w_ => FOwn setE 26 w50.heap.size w_ s (Nd.setsOf A ++ Nd.setsOf B)) ?_ ?_
 ·skip
  have h51 := ((h39.ext hE43).ext hE49)
  have h52 := ((h40.ext hE43).ext hE49)
  have h53 := ((h41.ext hE43).ext hE49)
  have h54 := ((h42.ext hE43).ext hE49)
  have h55 := ((hR36.ext hE43).ext hE49)
  have h56 := ((hn36.ext hE43).ext hE49)
  refine WC.weaken (r' := [(0, .slice axs xs.length capxs), (4, .bool false), (5, pt b10 0), (6, pt b16 0), (7, pt b36 0), (88, .bool false), (8, pt b45 0), (9, .slice none 0 0)]) (s4 (s4 (subReg_nil _))) ?_
  refine WC.drawF [89, 90, 91, 92, 95] [pc (.agg (tcells A (.slice a4 A.subs.length cap4)).toArray), pfo w50.heap.size (Nd.setsOf A), pc (.agg (tcells B (.slice a7 B.subs.length cap7)).toArray), pfo w50.heap.size (Nd.setsOf B), pc (.int .i64 0)] (by kernel_rfl) (by kernel_rfl) ⟨KW_pc _, KW_pfo _ _, KW_pc _, KW_pfo _ _, KW_pc _, trivial⟩ rfl rfl rfl (sc4 ?_ ?_ ?_ ?_ (sc ?_ (StepsOn.nil _))) ?_ ?_
  ·intro σ β w1 hE1 hbi hk
   refine ⟨[], (agree_nil _), ?_⟩
   refine WL.load_box rfl rfl rfl (h51.ext hE1) Ty.agg29 ?_
   exact dq hbi rfl
  ·intro σ β w1 hE1 hbi hk
   have hz1 := hE1.size
   refine ⟨[(89, .agg (tcells A (.slice a4 A.subs.length cap4)).toArray)], (ak hk 0 (agree_nil _)), ?_⟩
   refine WL.call rfl rfl rfl Ty.ent27 (sets_ok _ _ _ A (h52.ext hE1)) ?_
   rintro _ w80 ⟨v78, rfl, hFr78, hE79⟩
   have hzhE79 := hE79.size
   refine ⟨_, rfl, ?_⟩
   have hF78 := hFr78.rebase (base' := w50.heap.size) (by omega)
   obtain ⟨av78, cv78, rfl, -, -⟩ := hF78.cases
   have hS78 := hF78.sl.lt
   exact dqE hbi hE79 hF78
  ·intro σ β w1 hE1 hbi hk
   refine ⟨[], (agree_nil _), ?_⟩
   refine WL.load_box rfl rfl rfl (h53.ext hE1) Ty.agg29 ?_
   exact dq hbi rfl
  ·intro σ β w1 hE1 hbi hk
   have hz1 := hE1.size
   refine ⟨[(91, .agg (tcells B (.slice a7 B.subs.length cap7)).toArray)], (ak hk 2 (agree_nil _)), ?_⟩
   refine WL.call rfl rfl rfl Ty.ent27 (sets_ok _ _ _ B (h54.ext hE1)) ?_
   rintro _ w80 ⟨v78, rfl, hFr78, hE79⟩
   have hzhE79 := hE79.size
   refine ⟨_, rfl, ?_⟩
   have hF78 := hFr78.rebase (base' := w50.heap.size) (by omega)
   obtain ⟨av78, cv78, rfl, -, -⟩ := hF78.cases
   have hS78 := hF78.sl.lt
   exact dqE hbi hE79 hF78
  ·intro σ β w1 hE1 hbi hk
   refine ⟨[], (agree_nil _), ?_⟩
   refine mv ?_
   exact dq hbi rfl
  ·skip
   intro σ β w57 hE57 hbi57 hk
   have hz57 := hE57.size
   have hbi := hbi57
   obtain ⟨_, hv58, hF58⟩ := hk 1 (by decide) _ _ rfl rfl
   obtain ⟨av58, cv58, rfl, -, -⟩ := hF58.cases
   have hS58 := hF58.sl.lt
   obtain ⟨_, hv59, hF59⟩ := hk 3 (by decide) _ _ rfl rfl
   obtain ⟨av59, cv59, rfl, -, -⟩ := hF59.cases
   have hS59 := hF59.sl.lt
   refine WL.know [(90, .slice av58 ((Nd.setsOf A).length) cv58), (92, .slice av59 ((Nd.setsOf B).length) cv59), (95, .int .i64 0)] (ag hv58 (ag hv59 (aj hk 4 (agree_nil _)))) ?_
   have hol61 := hF58.own
   have hob61 := hF58.own
   refine WL.appendF (E := setE) (ys := (Nd.setsOf B)) rfl rfl Ty.slice47 Ty.zero26 rfl small_set rfl rfl hF58 hS59 (by omega) (by omega) ?_
   intro v61 w61 hG61 hF61 hv61
   have hE61 := grown_below hG61 ((((hE37.after (hB34.onto ((hB26.onto (hB23.onto ((((hE2.trans hE5).trans hE8).trans hE14).trans hE20) (by omega)) (by omega)).trans hE30) (by omega)) (by intro k h2; omega)).trans hE43).trans hE49).trans hE57) (by intro k hk; have := hol61 _ hk; omega)
   have hz61 := hE61.size
   have hzz61 := hG61.size
   obtain ⟨av61, cv61, rfl, -, -⟩ := hF61.cases
   have hS61 := hF61.sl.lt
   refine WL.len rfl rfl Try.underlying47 rfl ?_
   refine WL.nil (fun a_ ha => ?_)
   exact ⟨_, ha.weaken (s4 (s4 (sr rfl (sr rfl (subReg_nil _))))), (grown_below hG61 hE57 (by intro k hh; have := hol61 _ hh; have := hob61 _ hh; omega)), hF61⟩
  ·skip
   intro σ β w7057 hE7057 hbi7057 hk
   have hz7057 := hE7057.size
   have hbi := hbi7057
   obtain ⟨_, hv7058, hF7058⟩ := hk 1 (by decide) _ _ rfl rfl
   obtain ⟨av7058, cv7058, rfl, -, -⟩ := hF7058.cases
   have hS7058 := hF7058.sl.lt
   obtain ⟨_, hv7059, hF7059⟩ := hk 3 (by decide) _ _ rfl rfl
   obtain ⟨av7059, cv7059, rfl, -, -⟩ := hF7059.cases
   have hS7059 := hF7059.sl.lt
   refine WL.know [(90, .slice av7058 ((Nd.setsOf A).length) cv7058), (92, .slice av7059 ((Nd.setsOf B).length) cv7059)] (ag hv7058 (ag hv7059 (agree_nil _))) ?_
   have hol7060 := hF7058.own
   have hob7060 := hF7058.own
   refine WL.appendF (E := setE) (ys := (Nd.setsOf B)) rfl rfl Ty.slice47 Ty.zero26 rfl small_set rfl rfl hF7058 hS7059 (by omega) (by omega) ?_
   intro v7060 w7060 hG7060 hF7060 hv7060
   have hE7060 := grown_below hG7060 ((((hE37.after (hB34.onto ((hB26.onto (hB23.onto ((((hE2.trans hE5).trans hE8).trans hE14).trans hE20) (by omega)) (by omega)).trans hE30) (by omega)) (by intro k h2; omega)).trans hE43).trans hE49).trans hE7057) (by intro k hk; have := hol7060 _ hk; omega)
   have hz7060 := hE7060.size
   have hzz7060 := hG7060.size
   obtain ⟨av7060, cv7060, rfl, -, -⟩ := hF7060.cases
   have hS7060 := hF7060.sl.lt
   refine WL.nil (fun a_ ha => And.intro ?_ ?_)
   ·refine WL.at' ha ?_
    refine WL.len rfl rfl Try.underlying47 rfl ?_
    refine mv ?_
    refine WL.nil (fun a_ ha => ?_)
    exact ⟨_, ha.weaken (s4 (s4 (sr rfl (sr rfl (subReg_nil _))))), (grown_below hG7060 hE7057 (by intro k hh; have := hol7060 _ hh; have := hob7060 _ hh; omega)), hF7060⟩
   ·refine WL.at' ha ?_
    refine mv ?_
    refine WL.len rfl rfl Try.underlying47 rfl ?_
    refine WL.nil (fun a_ ha => ?_)
    exact ⟨_, ha.weaken (s4 (s4 (sr rfl (sr rfl (subReg_nil _))))), (grown_below hG7060 hE7057 (by intro k hh; have := hol7060 _ hh; have := hob7060 _ hh; omega)), hF7060⟩
 rintro s w91 a_ hE91 hF90 ha
 have hzhE91 := hE91.size
 obtain ⟨av90, cv90, rfl, -, -⟩ := hF90.cases
 have hS90 := hF90.sl.lt
 refine WC.at ?_ ha
 refine WC.block ?_
 have hzero : [.int .u64 0, .int .u64 0, .int .u64 0, .int .u64 0] = scells Nd.zero := rfl
 refine WC.weaken (r' := [(0, .slice axs xs.length capxs), (4, .bool false), (5, pt b10 0), (7, pt b36 0), (8, pt b45 0), (93, .slice av90 ((Nd.setsOf A ++ Nd.setsOf B).length) cv90), (94, .int .i64 ((Nd.setsOf A ++ Nd.setsOf B).length : Int)), (95, .int .i64 0), (9, .slice none 0 0)]) (s4 (s4 (sr rfl (subReg_nil _)))) ?_
 refine WC.loop (σ := Nat × Value × S4) (fun s r_ w_ => r_ = [(0, .slice axs xs.length capxs), (4, .bool false), (5, pt b10 0), (7, pt b36 0), (8, pt b45 0), (93, .slice av90 ((Nd.setsOf A ++ Nd.setsOf B).length) cv90), (94, .int .i64 ((Nd.setsOf A ++ Nd.setsOf B).length : Int)), (95, .int .i64 (s.1 : Int)), (9, s.2.1)] ∧ Keep (Eq b45) w91 w_ ∧ (s.1 ≤ (Nd.setsOf A ++ Nd.setsOf B).length ∧ FOwn setE 26 w91.heap.size w_ s.2.1 (Nd.dS ((Nd.setsOf A ++ Nd.setsOf B).take s.1)) ∧ Row w_ b45 (scells s.2.2) 26)) (fun s => (Nd.setsOf A ++ Nd.setsOf B).length - s.1) (0, .slice none 0 0, Nd.zero) ⟨rfl, (Keep.refl _ _), ⟨Nat.zero_le _, FOwn.nil _ _ _ _, (hR48.ext hE91)⟩⟩ ?_
 rintro ⟨k, v, s⟩ r_ w95 ⟨rfl, hE93, hI94⟩
 have hzhE93 := hE93.size
 dsimp only at hI94
 obtain ⟨hk, hF9, hR8⟩ := hI94
 obtain ⟨a9, c9, rfl, -, -⟩ := hF9.cases
 have hS9 := hF9.sl.lt
 have hdl := Nd.dS_len ((Nd.setsOf A ++ Nd.setsOf B).take k)
 have htl := List.length_take_le k (Nd.setsOf A ++ Nd.setsOf B)
 refine WC.weaken (r' := [(0, .slice axs xs.length capxs), (4, .bool false), (5, pt b10 0), (7, pt b36 0), (8, pt b45 0), (93, .slice av90 ((Nd.setsOf A ++ Nd.setsOf B).length) cv90), (94, .int .i64 ((Nd.setsOf A ++ Nd.setsOf B).length : Int)), (95, .int .i64 (k : Int)), (9, .slice a9 ((Nd.dS ((Nd.setsOf A ++ Nd.setsOf B).take k)).length) c9)]) (s4 (s4 (sr rfl (subReg_nil _)))) ?_
 refine sq ?_
 cases hc96 : decide (((k : Int) : Int) < ((Nd.setsOf A ++ Nd.setsOf B).length : Int)) with
 | false =>
  refine WL.lss rfl rfl rfl rfl hc96 ?_
  have hp96 := of_decide_eq_false hc96
  refine WL.dn ?_
  refine WC.seqk ?_
  refine cF ?_
  refine WC.exit (fun a_ ha => ?_)
  refine exit_then ?_
  refine exit_then ?_
  refine exit_here ?_
  refine WC.at ?_ ha
  refine WC.seqk ?_
  have hkk : k = (Nd.setsOf A ++ Nd.setsOf B).length := by omega
  have hnS : (Nd.nP A B).setsOf = (Nd.dS ((Nd.setsOf A ++ Nd.setsOf B).take k)) := by rw [hkk, List.take_length]; exact Nd.nP_sets hmA hmB
  have hnSl : (Nd.setsOf (Nd.nP A B)).length = (Nd.dS ((Nd.setsOf A ++ Nd.setsOf B).take k)).length := by rw [hnS]
  refine WC.region ?_
  have h97 := (hE93.row (((hR36.ext hE43).ext hE49).ext hE91) (by omega))
  refine WL.load_box rfl rfl rfl h97 Ty.agg29 ?_
  have h99 := (hE93.node (((hn36.ext hE43).ext hE49).ext hE91) (by intro k h1 h2; (try dsimp only at h1); (repeat' first | (guard_hyp h1 : _ ∨ _; refine Or.elim h1 (fun h1 => ?_) (fun h1 => ?_)) | (guard_hyp h1 : _ ∧ _; have hx := h1.2; replace h1 := h1.1)) <;> first | contradiction | omega))
  refine WL.call rfl rfl rfl Ty.ent27 (sets_ok _ _ _ (Nd.nP A B) h99) ?_
  rintro _ w101 ⟨v98, rfl, hFr98, hE100⟩
  have hzhE100 := hE100.size
  refine ⟨_, rfl, ?_⟩
  have hF98 := hFr98.rebase (base' := w95.heap.size) (by omega)
  obtain ⟨av98, cv98, rfl, -, -⟩ := hF98.cases
  have hS98 := hF98.sl.lt
  refine asg ?_
  refine WL.dn ?_
  refine WC.seqk ?_
  refine sq ?_
  refine mv ?_
  refine WL.len rfl rfl Try.underlying47 rfl ?_
  refine mv ?_
  refine WL.len rfl rfl Try.underlying47 rfl ?_
  refine WL.neq (b := false) rfl rfl rfl rfl (bne_eq_false_iff_eq.2 (by rw [hnS])) ?_
  refine WL.dn ?_
  refine cF ?_
  refine WC.sk ?_
  refine WC.seqk ?_
  refine sq ?_
  refine mv ?_
  refine WL.len rfl rfl Try.underlying47 rfl ?_
  refine mv ?_
  refine WL.dn ?_
  refine WC.block ?_
  refine WC.weaken (r' := [(0, .slice axs xs.length capxs), (4, .bool false), (5, pt b10 0), (7, pt b36 0), (9, .slice a9 ((Nd.dS ((Nd.setsOf A ++ Nd.setsOf B).take k)).length) c9), (16, .slice av98 ((Nd.setsOf (Nd.nP A B)).length) cv98), (138, .slice a9 ((Nd.dS ((Nd.setsOf A ++ Nd.setsOf B).take k)).length) c9), (139, .int .i64 ((Nd.dS ((Nd.setsOf A ++ Nd.setsOf B).take k)).length)), (140, .int .i64 0)]) (s4 (s4 (sr rfl (subReg_nil _)))) ?_
  refine WC.loop (σ := Nat) (fun q r_ w_ => r_ = [(0, .slice axs xs.length capxs), (4, .bool false), (5, pt b10 0), (7, pt b36 0), (9, .slice a9 ((Nd.dS ((Nd.setsOf A ++ Nd.setsOf B).take k)).length) c9), (16, .slice av98 ((Nd.setsOf (Nd.nP A B)).length) cv98), (138, .slice a9 ((Nd.dS ((Nd.setsOf A ++ Nd.setsOf B).take k)).length) c9), (139, .int .i64 ((Nd.dS ((Nd.setsOf A ++ Nd.setsOf B).take k)).length)), (140, .int .i64 (q : Int))] ∧ Ext w101 w_ ∧ q ≤ (Nd.dS ((Nd.setsOf A ++ Nd.setsOf B).take k)).length) (fun q => (Nd.dS ((Nd.setsOf A ++ Nd.setsOf B).take k)).length - q) 0 ⟨rfl, (Ext.refl _), (Nat.zero_le _)⟩ ?_
  rintro q r_ w104 ⟨rfl, hE102, hI103⟩
  have hzhE102 := hE102.size
  have hq := hI103
  refine sq ?_
  cases hc105 : decide (((q : Int) : Int) < ((Nd.dS ((Nd.setsOf A ++ Nd.setsOf B).take k)).length)) with
  | false =>
   refine WL.lss rfl rfl rfl rfl hc105 ?_
   have hp105 := of_decide_eq_false hc105
   refine WL.dn ?_
   refine WC.seqk ?_
   refine cF ?_
   refine WC.exit (fun a_ ha => ?_)
   refine exit_then ?_
   refine exit_then ?_
   refine exit_here ?_
   refine WC.at ?_ ha
   refine sq ?_
   have h106 := ((h97.ext hE100).ext hE102)
   refine WL.load_box rfl rfl rfl h106 Ty.agg29 ?_
   have h108 := ((h99.ext hE100).ext hE102)
   refine WL.call rfl rfl rfl Ty.ent28 (copy2_ok _ _ _ (Nd.nP A B) h108 hnf.light) ?_
   rintro _ w110 ⟨l107, hi107, rfl, hI107, hh107, hE109⟩
   have hzhE109 := hE109.size
   refine ⟨_, rfl, ?_⟩
   have hn107 := (hI107.node _ _ _ _ hh107 (by have := hnf.2; omega)).lt
   obtain ⟨a107, cap107, rfl, hts107, hlen107⟩ := hn107.op2
   refine WL.alloc rfl rfl Ty.zero29 rfl (fun b111 w116 hb112 hE115 hs113 hR114 => ?_)
   refine WL.store_box rfl rfl rfl hR114 Ty.agg29 rfl rfl (fun w119 hB118 hR117 => ?_)
   have hzhB118 := hB118.size
   refine WL.dn ?_
   refine WC.seqk ?_
   refine sq ?_
   refine WL.load_box rfl rfl rfl hR117 Ty.agg29 ?_
   have h120 := (hB118.row ((h106.ext hE109).ext hE115) (by omega))
   refine WL.load_box rfl rfl rfl h120 Ty.agg29 ?_
   have h121 := ((hn107.ext hE115).bu hB118)
   have h122 := (((h108.ext hE109).ext hE115).bu hB118)
   refine WL.call rfl rfl rfl Ty.ent14 (Same_ok _ _ _ _ _ (Nd.nP A B) (Nd.nP A B) h121 h122) ?_
   rintro _ w124 ⟨he, hE123⟩
   have hq : (Nd.light (Nd.nP A B) && Nd.light (Nd.nP A B) && Nd.same (Nd.nP A B) (Nd.nP A B)) = true := (Nd.Same_self hnf.light)
   rw [hq] at he
   subst he
   clear hq
   have hzhE123 := hE123.size
   refine ⟨_, rfl, ?_⟩
   refine WL.not rfl rfl rfl ?_
   refine mv ?_
   refine WL.load_box rfl rfl rfl (hR117.ext hE123) Ty.agg29 ?_
   have h125 := ((hB118.row (((((hE93.row (((h39.ext hE43).ext hE49).ext hE91) (by omega)).ext hE100).ext hE102).ext hE109).ext hE115) (by omega)).ext hE123)
   refine WL.load_box rfl rfl rfl h125 Ty.agg29 ?_
   have h126 := (((((((hE93.node (((h40.ext hE43).ext hE49).ext hE91) (by intro k h1 h2; (try dsimp only at h1); (repeat' first | (guard_hyp h1 : _ ∨ _; refine Or.elim h1 (fun h1 => ?_) (fun h1 => ?_)) | (guard_hyp h1 : _ ∧ _; have hx := h1.2; replace h1 := h1.1)) <;> first | contradiction | omega)).ext hE100).ext hE102).ext hE109).ext hE115).bu hB118).ext hE123)
   refine WL.call rfl rfl rfl Ty.ent14 (Same_ok _ _ _ _ _ (Nd.nP A B) A (h121.ext hE123) h126) ?_
   rintro _ w128 ⟨he, hE127⟩
   have hq : (Nd.light (Nd.nP A B) && Nd.light A && Nd.same (Nd.nP A B) A) = false := (Nd.nP_notsame A B)
   rw [hq] at he
   subst he
   clear hq
   have hzhE127 := hE127.size
   refine ⟨_, rfl, ?_⟩
   refine pF ?_
   refine WL.dn ?_
   refine cF ?_
   refine WC.sk ?_
   refine sq ?_
   have h129 := ((hR117.ext hE123).ext hE127)
   refine WL.load_box rfl rfl rfl h129 Ty.agg29 ?_
   have h130 := ((((hI107.ext hE115 (by omega)).to (fun q h7 h8 => hB118.block q (by omega))).ext hE123 (by omega)).ext hE127 (by omega))
   refine WL.call rfl rfl rfl Ty.ent29 (over_ok _ _ _ _ _ h130 (by omega) (by have := hnf.2; omega)) ?_
   rintro _ w132 ⟨rfl, hE131⟩
   have hzhE131 := hE131.size
   refine ⟨_, rfl, ?_⟩
   refine WL.dn ?_
   refine WC.seqk ?_
   have h133 := (hE131.node ((h122.ext hE123).ext hE127) (by rintro k h1 ⟨h2, h3⟩; (try dsimp only at h1); (repeat' first | (guard_hyp h1 : _ ∨ _; refine Or.elim h1 (fun h1 => ?_) (fun h1 => ?_)) | (guard_hyp h1 : _ ∧ _; have hx := h1.2; replace h1 := h1.1)) <;> first | contradiction | omega))
   have h134 := (hE131.row (h125.ext hE127) (by omega))
   have h135 := (hE131.row (((hB118.row (((((hE93.row (((h41.ext hE43).ext hE49).ext hE91) (by omega)).ext hE100).ext hE102).ext hE109).ext hE115) (by omega)).ext hE123).ext hE127) (by omega))
   have h136 := (hE131.node ((((((((hE93.node (((h42.ext hE43).ext hE49).ext hE91) (by intro k h1 h2; (try dsimp only at h1); (repeat' first | (guard_hyp h1 : _ ∨ _; refine Or.elim h1 (fun h1 => ?_) (fun h1 => ?_)) | (guard_hyp h1 : _ ∧ _; have hx := h1.2; replace h1 := h1.1)) <;> first | contradiction | omega)).ext hE100).ext hE102).ext hE109).ext hE115).bu hB118).ext hE123).ext hE127) (by rintro k h1 ⟨h2, h3⟩; (try dsimp only at h1); (repeat' first | (guard_hyp h1 : _ ∨ _; refine Or.elim h1 (fun h1 => ?_) (fun h1 => ?_)) | (guard_hyp h1 : _ ∧ _; have hx := h1.2; replace h1 := h1.1)) <;> first | contradiction | omega))
   have h137 := (hE131.row ((h120.ext hE123).ext hE127) (by omega))
   have h138 := (hE131.row (((hB118.row ((((hR8.ext hE100).ext hE102).ext hE109).ext hE115) (by omega)).ext hE123).ext hE127) (by omega))
   refine WC.weaken (r' := [(0, .slice axs xs.length capxs), (4, .bool false), (5, pt b10 0), (7, pt b36 0), (9, .slice a9 ((Nd.dS ((Nd.setsOf A ++ Nd.setsOf B).take k)).length) c9), (16, .slice av98 ((Nd.setsOf (Nd.nP A B)).length) cv98), (138, .slice a9 ((Nd.dS ((Nd.setsOf A ++ Nd.setsOf B).take k)).length) c9), (139, .int .i64 ((Nd.dS ((Nd.setsOf A ++ Nd.setsOf B).take k)).length)), (140, .int .i64 (q : Int)), (141, .bool false), (153, .agg (tcells (Nd.nP A B) (.slice a36 (Nd.nP A B).subs.length cap36)).toArray), (154, .agg (tcells (Nd.nP A B) (.slice a107 (Nd.nP A B).subs.length cap107)).toArray), (18, pt b111 0), (155, .agg (tcells (Nd.nP A B) (.slice a107 (Nd.nP A B).subs.length cap107)).toArray), (156, .agg (tcells (Nd.nP A B) (.slice a36 (Nd.nP A B).subs.length cap36)).toArray), (157, .bool true), (158, .bool false), (159, .bool false), (160, .agg (tcells (Nd.nP A B) (.slice a107 (Nd.nP A B).subs.length cap107)).toArray), (161, .agg (tcells A (.slice a4 A.subs.length cap4)).toArray), (162, .bool false), (163, .bool false), (164, .agg (tcells (Nd.nP A B) (.slice a107 (Nd.nP A B).subs.length cap107)).toArray), (165, .tuple #[])]) (s4 (s4 (s4 (s4 (s4 (s4 (subReg_nil _))))))) ?_
   refine WC.draw 3 [166, 167, 168] [pc (.agg (tcells A (.slice a4 A.subs.length cap4)).toArray), pc (.slice axs xs.length capxs), pnode (fun k => w132.heap.size ≤ k) A] (by kernel_rfl) (by kernel_rfl) ⟨KW_pc _, KW_pc _, KW_pnode _ _, trivial⟩ rfl rfl rfl (sc ?_ (sc ?_ (sc ?_ (StepsOn.nil _)))) ?_
   ·intro σ β w1 hE1 hbi hk
    refine ⟨[], (agree_nil _), ?_⟩
    refine WL.load_box rfl rfl rfl (h134.ext hE1) Ty.agg29 ?_
    exact dq hbi rfl
   ·intro σ β w1 hE1 hbi hk
    refine ⟨[], (agree_nil _), ?_⟩
    refine mv ?_
    exact dq hbi rfl
   ·intro σ β w1 hE1 hbi hk
    have hz1 := hE1.size
    refine ⟨[(167, .slice axs xs.length capxs)], (ak hk 1 (agree_nil _)), ?_⟩
    refine WL.call rfl rfl rfl Ty.ent9 (made_at hA _ _ _ _ (hxxs.ext ((hE131.after (((hB118.onto (((((hE93.after ((((hE37.after (hB34.onto ((hB26.onto (hB23.onto ((((hE2.trans hE5).trans hE8).trans hE14).trans hE20) (by omega)) (by omega)).trans hE30) (by omega)) (by intro k h2; omega)).trans hE43).trans hE49).trans hE91) (by intro k h2; omega)).trans hE100).trans hE102).trans hE109).trans hE115) (by omega)).trans hE123).trans hE127) (by rintro k ⟨h2, h3⟩; omega)).trans hE1))) ?_
    rintro _ w162 ⟨l160, rfl, hr160, hE161⟩
    refine ⟨_, rfl, ?_⟩
    have hn160 := hr160.lt
    obtain ⟨a160, cap160, rfl, hts160, hlen160⟩ := hn160.op2
    exact dqE hbi hE161 ⟨_, rfl, (hr160.off0 hbi (fun k hk => Nat.le_trans hE1.size hk))⟩
   intro σ β w139 hE139 hbi139 hk
   have hz139 := hE139.size
   have hbi := hbi139
   obtain ⟨_, hv141, l141, rfl, hn141⟩ := hk 2 (by decide) _ _ rfl rfl
   have hn141 := hn141.lt
   obtain ⟨a141, cap141, rfl, hts141, hlen141⟩ := hn141.op2
   refine WL.know [(166, .agg (tcells A (.slice a4 A.subs.length cap4)).toArray), (168, .agg (tcells A (.slice a141 A.subs.length cap141)).toArray)] (aj hk 0 (ag hv141 (agree_nil _))) ?_
   have h142 := ((hE131.node (h126.ext hE127) (by rintro k h1 ⟨h2, h3⟩; (try dsimp only at h1); (repeat' first | (guard_hyp h1 : _ ∨ _; refine Or.elim h1 (fun h1 => ?_) (fun h1 => ?_)) | (guard_hyp h1 : _ ∧ _; have hx := h1.2; replace h1 := h1.1)) <;> first | contradiction | omega)).ext hE139)
   refine WL.call rfl rfl rfl Ty.ent14 (Same_ok _ _ _ _ _ A A h142 hn141) ?_
   rintro _ w144 ⟨he, hE143⟩
   have hq : (Nd.light A && Nd.light A && Nd.same A A) = true := (Nd.Same_self hfA.light)
   rw [hq] at he
   subst he
   clear hq
   have hzhE143 := hE143.size
   refine ⟨_, rfl, ?_⟩
   refine mv ?_
   have h145 := ((h137.ext hE139).ext hE143)
   refine WL.load_box rfl rfl rfl h145 Ty.agg29 ?_
   have h146 := ((h133.ext hE139).ext hE143)
   refine WL.call rfl rfl rfl Ty.ent12 (clean_ok _ _ _ _ h146) ?_
   rintro _ w148 ⟨he, hE147⟩
   have hq : (Nd.clean (Nd.nP A B)) = true := hnf.clean
   rw [hq] at he
   subst he
   clear hq
   have hzhE147 := hE147.size
   refine ⟨_, rfl, ?_⟩
   refine pT ?_
   refine asg ?_
   refine WL.dn ?_
   refine WC.ret (fun a_ ha => ?_)
   exact bodyPost_tmp rfl ha rfl ⟨rfl, ((((hE131.after (((hB118.onto (((((hE93.after ((((hE37.after (hB34.onto ((hB26.onto (hB23.onto ((((hE2.trans hE5).trans hE8).trans hE14).trans hE20) (by omega)) (by omega)).trans hE30) (by omega)) (by intro k h2; omega)).trans hE43).trans hE49).trans hE91) (by intro k h2; omega)).trans hE100).trans hE102).trans hE109).trans hE115) (by omega)).trans hE123).trans hE127) (by rintro k ⟨h2, h3⟩; omega)).trans hE139).trans hE143).trans hE147)⟩
  | true =>
   refine WL.lss rfl rfl rfl rfl hc105 ?_
   have hp105 := of_decide_eq_true hc105
   refine WL.dn ?_
   refine WC.seqk ?_
   refine cT ?_
   refine WC.sk ?_
   refine WC.seqk ?_
   refine WC.block ?_
   refine sq ?_
   refine mv ?_
   refine asg ?_
   refine WL.dn ?_
   refine WC.seqk ?_
   obtain ⟨x106, hx106⟩ : ∃ x, (Nd.setsOf (Nd.nP A B))[q]? = some x := ⟨_, List.getElem?_eq_getElem (by rw [hnS]; omega)⟩
   obtain ⟨eb106, eo106, hea106, hD106, her106⟩ := ((hS98.ext hE102)).at hx106
   subst hea106
   have h107 := ((hS9.ext hE100).ext hE102)
   obtain ⟨x108, hx108⟩ : ∃ x, (Nd.dS ((Nd.setsOf A ++ Nd.setsOf B).take k))[q]? = some x := ⟨_, List.getElem?_eq_getElem (by omega)⟩
   obtain ⟨eb108, eo108, hea108, hD108, her108⟩ := (h107).at hx108
   subst hea108
   have h109 := (((hE93.row (((h39.ext hE43).ext hE49).ext hE91) (by omega)).ext hE100).ext hE102)
   have h110 := (((hE93.node (((h40.ext hE43).ext hE49).ext hE91) (by intro k h1 h2; (try dsimp only at h1); (repeat' first | (guard_hyp h1 : _ ∨ _; refine Or.elim h1 (fun h1 => ?_) (fun h1 => ?_)) | (guard_hyp h1 : _ ∧ _; have hx := h1.2; replace h1 := h1.1)) <;> first | contradiction | omega)).ext hE100).ext hE102)
   have h111 := (((hE93.row (((h41.ext hE43).ext hE49).ext hE91) (by omega)).ext hE100).ext hE102)
   have h112 := (((hE93.node (((h42.ext hE43).ext hE49).ext hE91) (by intro k h1 h2; (try dsimp only at h1); (repeat' first | (guard_hyp h1 : _ ∨ _; refine Or.elim h1 (fun h1 => ?_) (fun h1 => ?_)) | (guard_hyp h1 : _ ∧ _; have hx := h1.2; replace h1 := h1.1)) <;> first | contradiction | omega)).ext hE100).ext hE102)
   have h113 := ((h97.ext hE100).ext hE102)
   have h114 := ((h99.ext hE100).ext hE102)
   have h115 := ((hR8.ext hE100).ext hE102)
   refine WC.weaken (r' := [(0, .slice axs xs.length capxs), (4, .bool false), (5, pt b10 0), (7, pt b36 0), (9, .slice (some ⟨eb108, eo108, none⟩) ((Nd.dS ((Nd.setsOf A ++ Nd.setsOf B).take k)).length) c9), (16, .slice (some ⟨eb106, eo106, none⟩) ((Nd.setsOf (Nd.nP A B)).length) cv98), (138, .slice (some ⟨eb108, eo108, none⟩) ((Nd.dS ((Nd.setsOf A ++ Nd.setsOf B).take k)).length) c9), (139, .int .i64 ((Nd.dS ((Nd.setsOf A ++ Nd.setsOf B).take k)).length)), (140, .int .i64 (q : Int)), (141, .bool true), (142, .int .i64 (q : Int)), (17, .int .i64 (q : Int))]) (s4 (s4 (s4 (subReg_nil _)))) ?_
   refine WC.draw 8 [143, 144, 145, 146, 147, 148, 149, 150] [pc (.slice (some ⟨eb106, eo106, none⟩) ((Nd.setsOf (Nd.nP A B)).length) cv98), pc (.int .i64 (q : Int)), pc (pt eb106 (eo106 + q * 4)), pc (.agg #[.int .u64 x106.a, .int .u64 x106.b, .int .u64 x106.c, .int .u64 x106.d]), pc (.slice (some ⟨eb108, eo108, none⟩) ((Nd.dS ((Nd.setsOf A ++ Nd.setsOf B).take k)).length) c9), pc (.int .i64 (q : Int)), pc (pt eb108 (eo108 + q * 4)), pc (.agg #[.int .u64 x108.a, .int .u64 x108.b, .int .u64 x108.c, .int .u64 x108.d])] (by kernel_rfl) (by kernel_rfl) (k4 (k4 trivial)) rfl rfl rfl (sc4 ?_ ?_ ?_ ?_ (sc4 ?_ ?_ ?_ ?_ (StepsOn.nil _))) ?_
   ·intro σ β w1 hE1 hbi hk
    refine ⟨[], (agree_nil _), ?_⟩
    refine mv ?_
    exact dq hbi rfl
   ·intro σ β w1 hE1 hbi hk
    refine ⟨[], (agree_nil _), ?_⟩
    refine mv ?_
    exact dq hbi rfl
   ·intro σ β w1 hE1 hbi hk
    have hz1 := hE1.size
    refine ⟨[(143, .slice (some ⟨eb106, eo106, none⟩) ((Nd.setsOf (Nd.nP A B)).length) cv98), (144, .int .i64 (q : Int))], (ak hk 0 (ak hk 1 (agree_nil _))), ?_⟩
    refine WL.indexAddr (i := q) rfl rfl Ty.slice47 rfl rfl rfl (by omega) ?_
    exact dq hbi rfl
   ·intro σ β w1 hE1 hbi hk
    refine ⟨[(145, pt eb106 (eo106 + q * 4))], (ak hk 2 (agree_nil _)), ?_⟩
    refine WL.load_agg (l := scells x106) rfl rfl Ty.agg26 rfl (her106.ext hE1) ?_
    exact dq hbi rfl
   ·intro σ β w1 hE1 hbi hk
    refine ⟨[], (agree_nil _), ?_⟩
    refine mv ?_
    exact dq hbi rfl
   ·intro σ β w1 hE1 hbi hk
    refine ⟨[], (agree_nil _), ?_⟩
    refine mv ?_
    exact dq hbi rfl
   ·intro σ β w1 hE1 hbi hk
    have hz1 := hE1.size
    refine ⟨[(147, .slice (some ⟨eb108, eo108, none⟩) ((Nd.dS ((Nd.setsOf A ++ Nd.setsOf B).take k)).length) c9), (148, .int .i64 (q : Int))], (ak hk 4 (ak hk 5 (agree_nil _))), ?_⟩
    refine WL.indexAddr (i := q) rfl rfl Ty.slice47 rfl rfl rfl (by omega) ?_
    exact dq hbi rfl
   ·intro σ β w1 hE1 hbi hk
    refine ⟨[(149, pt eb108 (eo108 + q * 4))], (ak hk 6 (agree_nil _)), ?_⟩
    refine WL.load_agg (l := scells x108) rfl rfl Ty.agg26 rfl (her108.ext hE1) ?_
    exact dq hbi rfl
   intro σ β w116 hE116 hbi116 hk
   have hz116 := hE116.size
   have hbi := hbi116
   refine WL.know [(146, .agg #[.int .u64 x106.a, .int .u64 x106.b, .int .u64 x106.c, .int .u64 x106.d]), (150, .agg #[.int .u64 x108.a, .int .u64 x108.b, .int .u64 x108.c, .int .u64 x108.d])] (aj hk 3 (aj hk 7 (agree_nil _))) ?_
   refine WL.setneq (s := x106) (s' := x108) (b := false) rfl rfl Ty.arr26 Ty.eqg26 Try.underlying24 rfl rfl (by have e1 := hx106; rw [hnS] at e1; have e2 := e1.symm.trans hx108; rw [Option.some.inj e2]; simp) ?_
   refine WL.dn ?_
   refine cF ?_
   refine WC.sk ?_
   refine WC.region ?_
   refine WL.add (v := (q : Int) + 1) rfl rfl rfl rfl (IntWalk.i64_in _ (by omega)) ?_
   refine mv ?_
   refine WL.nil (fun a_ ha => ?_)
   exact ⟨q + 1, _, ha.weaken (s4 (s4 (sr rfl (subReg_nil _)))), ⟨rfl, (hE102.trans hE116), (by omega)⟩, by first | omega | (dsimp only; omega)⟩
 | true =>
  refine WL.lss rfl rfl rfl rfl hc96 ?_
  have hp96 := of_decide_eq_true hc96
  refine WL.dn ?_
  refine WC.seqk ?_
  refine cT ?_
  refine WC.sk ?_
  refine WC.seqk ?_
  refine WC.block ?_
  refine sq ?_
  obtain ⟨x97, hx97⟩ : ∃ x, (Nd.setsOf A ++ Nd.setsOf B)[k]? = some x := ⟨_, List.getElem?_eq_getElem (by omega)⟩
  obtain ⟨eb97, eo97, hea97, hD97, her97⟩ := ((hS90.kept hE93 (by intro k h1 h2; (try dsimp only at h1); (repeat' first | (guard_hyp h1 : _ ∨ _; refine Or.elim h1 (fun h1 => ?_) (fun h1 => ?_)) | (guard_hyp h1 : _ ∧ _; have hx := h1.2; replace h1 := h1.1)) <;> first | contradiction | omega))).at hx97
  subst hea97
  refine WL.indexAddr (i := k) rfl rfl Ty.slice47 rfl rfl rfl (by omega) ?_
  refine WL.load_agg (l := scells x97) rfl rfl Ty.agg26 rfl her97 ?_
  refine WL.alloc rfl rfl Ty.zero26 rfl (fun b98 w103 hb99 hE102 hs100 hR101 => ?_)
  refine WL.store_box rfl rfl rfl hR101 Ty.agg26 rfl rfl (fun w106 hB105 hR104 => ?_)
  have hzhB105 := hB105.size
  refine WL.dn ?_
  refine sq ?_
  refine asg ?_
  refine WL.dn ?_
  refine WC.seqk ?_
  refine sq ?_
  refine mv ?_
  refine WL.len rfl rfl Try.underlying47 rfl ?_
  refine mv ?_
  refine WL.dn ?_
  refine WC.block ?_
  have hany0 : ((Nd.dS ((Nd.setsOf A ++ Nd.setsOf B).take k)).take 0).any (fun t => x97 == t) = false := rfl
  refine WC.weaken (r' := [(0, .slice axs xs.length capxs), (4, .bool false), (5, pt b10 0), (7, pt b36 0), (8, pt b45 0), (93, .slice (some ⟨eb97, eo97, none⟩) ((Nd.setsOf A ++ Nd.setsOf B).length) cv90), (94, .int .i64 ((Nd.setsOf A ++ Nd.setsOf B).length : Int)), (95, .int .i64 (k : Int)), (9, .slice a9 ((Nd.dS ((Nd.setsOf A ++ Nd.setsOf B).take k)).length) c9), (11, pt b98 0), (99, .slice a9 ((Nd.dS ((Nd.setsOf A ++ Nd.setsOf B).take k)).length) c9), (100, .int .i64 ((Nd.dS ((Nd.setsOf A ++ Nd.setsOf B).take k)).length)), (101, .int .i64 0), (12, .bool false)]) (s4 (s4 (s4 (sr rfl (sr rfl (subReg_nil _)))))) ?_
  refine WC.loop (σ := Nat) (fun j r_ w_ => r_ = [(0, .slice axs xs.length capxs), (4, .bool false), (5, pt b10 0), (7, pt b36 0), (8, pt b45 0), (93, .slice (some ⟨eb97, eo97, none⟩) ((Nd.setsOf A ++ Nd.setsOf B).length) cv90), (94, .int .i64 ((Nd.setsOf A ++ Nd.setsOf B).length : Int)), (95, .int .i64 (k : Int)), (9, .slice a9 ((Nd.dS ((Nd.setsOf A ++ Nd.setsOf B).take k)).length) c9), (11, pt b98 0), (99, .slice a9 ((Nd.dS ((Nd.setsOf A ++ Nd.setsOf B).take k)).length) c9), (100, .int .i64 ((Nd.dS ((Nd.setsOf A ++ Nd.setsOf B).take k)).length)), (101, .int .i64 (j : Int)), (12, .bool (((Nd.dS ((Nd.setsOf A ++ Nd.setsOf B).take k)).take j).any (fun t => x97 == t)))] ∧ Ext w106 w_ ∧ j ≤ (Nd.dS ((Nd.setsOf A ++ Nd.setsOf B).take k)).length) (fun j => (Nd.dS ((Nd.setsOf A ++ Nd.setsOf B).take k)).length - j) 0 ⟨rfl, (Ext.refl _), (Nat.zero_le _)⟩ ?_
  rintro j r_ w109 ⟨rfl, hE107, hI108⟩
  have hzhE107 := hE107.size
  have hj := hI108
  refine sq ?_
  cases hc110 : decide (((j : Int) : Int) < ((Nd.dS ((Nd.setsOf A ++ Nd.setsOf B).take k)).length)) with
  | false =>
   refine WL.lss rfl rfl rfl rfl hc110 ?_
   have hp110 := of_decide_eq_false hc110
   refine WL.dn ?_
   refine WC.seqk ?_
   refine cF ?_
   refine WC.exit (fun a_ ha => ?_)
   refine exit_then ?_
   refine exit_then ?_
   refine exit_here ?_
   refine WC.at ?_ ha
   refine WC.seqk ?_
   refine WC.seqk ?_
   have hjl : j = (Nd.dS ((Nd.setsOf A ++ Nd.setsOf B).take k)).length := by omega
   refine WC.region ?_
   refine mv ?_
   refine WL.not rfl rfl rfl ?_
   refine WL.dn ?_
   cases hc111 : !(((Nd.dS ((Nd.setsOf A ++ Nd.setsOf B).take k)).take j).any (fun t => x97 == t)) with
   | false =>
    refine cF ?_
    refine WC.sk ?_
    refine sq ?_
    refine mv ?_
    refine WL.dn ?_
    refine WC.block ?_
    have h112 := ((hB105.row (hR8.ext hE102) (by omega)).ext hE107)
    refine WC.weaken (r' := [(0, .slice axs xs.length capxs), (4, .bool false), (5, pt b10 0), (7, pt b36 0), (8, pt b45 0), (93, .slice (some ⟨eb97, eo97, none⟩) ((Nd.setsOf A ++ Nd.setsOf B).length) cv90), (94, .int .i64 ((Nd.setsOf A ++ Nd.setsOf B).length : Int)), (95, .int .i64 (k : Int)), (9, .slice a9 ((Nd.dS ((Nd.setsOf A ++ Nd.setsOf B).take k)).length) c9), (11, pt b98 0), (118, .int .i64 0)]) (s4 (s4 (sr rfl (sr rfl (sr rfl (subReg_nil _)))))) ?_
    refine WC.loop (σ := Nat × S4) (fun s r_ w_ => r_ = [(0, .slice axs xs.length capxs), (4, .bool false), (5, pt b10 0), (7, pt b36 0), (8, pt b45 0), (93, .slice (some ⟨eb97, eo97, none⟩) ((Nd.setsOf A ++ Nd.setsOf B).length) cv90), (94, .int .i64 ((Nd.setsOf A ++ Nd.setsOf B).length : Int)), (95, .int .i64 (k : Int)), (9, .slice a9 ((Nd.dS ((Nd.setsOf A ++ Nd.setsOf B).take k)).length) c9), (11, pt b98 0), (118, .int .i64 (s.1 : Int))] ∧ Keep (Eq b45) w109 w_ ∧ (s.1 ≤ 4 ∧ Row w_ b45 (scells s.2) 26)) (fun s => 4 - s.1) (0, s) ⟨rfl, (Keep.refl _ _), ⟨Nat.zero_le _, h112⟩⟩ ?_
    rintro ⟨i, z⟩ r_ w115 ⟨rfl, hE113, hI114⟩
    have hzhE113 := hE113.size
    dsimp only at hI114
    obtain ⟨hi, hR8b⟩ := hI114
    refine WC.weaken (r' := [(0, .slice axs xs.length capxs), (4, .bool false), (5, pt b10 0), (7, pt b36 0), (8, pt b45 0), (93, .slice (some ⟨eb97, eo97, none⟩) ((Nd.setsOf A ++ Nd.setsOf B).length) cv90), (94, .int .i64 ((Nd.setsOf A ++ Nd.setsOf B).length : Int)), (95, .int .i64 (k : Int)), (9, .slice a9 ((Nd.dS ((Nd.setsOf A ++ Nd.setsOf B).take k)).length) c9), (11, pt b98 0), (118, .int .i64 (i : Int))]) (s4 (s4 (sr rfl (sr rfl (sr rfl (subReg_nil _)))))) ?_
    refine sq ?_
    cases hc116 : decide (((i : Int) : Int) < 4) with
    | false =>
     refine WL.lss rfl rfl rfl rfl hc116 ?_
     have hp116 := of_decide_eq_false hc116
     refine WL.dn ?_
     refine WC.seqk ?_
     refine cF ?_
     refine WC.exit (fun a_ ha => ?_)
     refine exit_then ?_
     refine exit_then ?_
     refine exit_here ?_
     refine WC.at ?_ ha
     refine WC.region ?_
     refine WL.add (v := (k : Int) + 1) rfl rfl rfl rfl (IntWalk.i64_in _ (by omega)) ?_
     refine mv ?_
     refine WL.nil (fun a_ ha => ?_)
     have h117 := ((((hF9.ext hE102).but hB105 (fun hk => by have := (hF9.ext hE102).own _ hk; have := hF9.own _ hk; omega)).ext hE107).kept hE113 (by intro k hk h2; have := (((hF9.ext hE102).but hB105 (fun hk => by have := (hF9.ext hE102).own _ hk; have := hF9.own _ hk; omega)).ext hE107).own _ hk; have := hF9.own _ hk; omega))
     exact ⟨(k + 1, .slice a9 ((Nd.dS ((Nd.setsOf A ++ Nd.setsOf B).take k)).length) c9, z), _, ha.weaken (s4 (s4 (sr rfl (subReg_nil _)))), ⟨rfl, (((hB105.keepNew (hE93.trans (hE102.keep _)) (by omega)).trans (hE107.keep _)).trans hE113), ⟨by first | omega | (dsimp only; omega), (by dsimp only; rw [Nd.dS_at hx97 hjl]; have hq : (!((Nd.dS ((Nd.setsOf A ++ Nd.setsOf B).take k)).take j).any (fun t => x97 == t)) = false := hc111; simp only [Bool.not_eq_true', Bool.not_eq_false'] at hq; rw [hq]; exact h117), hR8b⟩⟩, by first | omega | (dsimp only; omega)⟩
    | true =>
     refine WL.lss rfl rfl rfl rfl hc116 ?_
     have hp116 := of_decide_eq_true hc116
     refine WL.dn ?_
     refine WC.seqk ?_
     refine cT ?_
     refine WC.sk ?_
     refine WC.seqk ?_
     refine WC.block ?_
     refine sq ?_
     refine mv ?_
     refine asg ?_
     refine WL.dn ?_
     have hi4 : i < 4 := by omega
     have h117 := (hE113.row ((hB105.row ((hE93.row (((h39.ext hE43).ext hE49).ext hE91) (by omega)).ext hE102) (by omega)).ext hE107) (by omega))
     have h118 := (hE113.node ((((hE93.node (((h40.ext hE43).ext hE49).ext hE91) (by intro k h1 h2; (try dsimp only at h1); (repeat' first | (guard_hyp h1 : _ ∨ _; refine Or.elim h1 (fun h1 => ?_) (fun h1 => ?_)) | (guard_hyp h1 : _ ∧ _; have hx := h1.2; replace h1 := h1.1)) <;> first | contradiction | omega)).ext hE102).bu hB105).ext hE107) (by intro k h1 h2; (try dsimp only at h1); (repeat' first | (guard_hyp h1 : _ ∨ _; refine Or.elim h1 (fun h1 => ?_) (fun h1 => ?_)) | (guard_hyp h1 : _ ∧ _; have hx := h1.2; replace h1 := h1.1)) <;> first | contradiction | omega))
     have h119 := (hE113.row ((hB105.row ((hE93.row (((h41.ext hE43).ext hE49).ext hE91) (by omega)).ext hE102) (by omega)).ext hE107) (by omega))
     have h120 := (hE113.node ((((hE93.node (((h42.ext hE43).ext hE49).ext hE91) (by intro k h1 h2; (try dsimp only at h1); (repeat' first | (guard_hyp h1 : _ ∨ _; refine Or.elim h1 (fun h1 => ?_) (fun h1 => ?_)) | (guard_hyp h1 : _ ∧ _; have hx := h1.2; replace h1 := h1.1)) <;> first | contradiction | omega)).ext hE102).bu hB105).ext hE107) (by intro k h1 h2; (try dsimp only at h1); (repeat' first | (guard_hyp h1 : _ ∨ _; refine Or.elim h1 (fun h1 => ?_) (fun h1 => ?_)) | (guard_hyp h1 : _ ∧ _; have hx := h1.2; replace h1 := h1.1)) <;> first | contradiction | omega))
     have h121 := (hE113.row ((hB105.row ((hE93.row (((hR36.ext hE43).ext hE49).ext hE91) (by omega)).ext hE102) (by omega)).ext hE107) (by omega))
     have h122 := (hE113.node ((((hE93.node (((hn36.ext hE43).ext hE49).ext hE91) (by intro k h1 h2; (try dsimp only at h1); (repeat' first | (guard_hyp h1 : _ ∨ _; refine Or.elim h1 (fun h1 => ?_) (fun h1 => ?_)) | (guard_hyp h1 : _ ∧ _; have hx := h1.2; replace h1 := h1.1)) <;> first | contradiction | omega)).ext hE102).bu hB105).ext hE107) (by intro k h1 h2; (try dsimp only at h1); (repeat' first | (guard_hyp h1 : _ ∨ _; refine Or.elim h1 (fun h1 => ?_) (fun h1 => ?_)) | (guard_hyp h1 : _ ∧ _; have hx := h1.2; replace h1 := h1.1)) <;> first | contradiction | omega))
     have h123 := (hE113.row (hR104.ext hE107) (by omega))
     refine WC.weaken (r' := [(0, .slice axs xs.length capxs), (4, .bool false), (5, pt b10 0), (7, pt b36 0), (8, pt b45 0), (93, .slice (some ⟨eb97, eo97, none⟩) ((Nd.setsOf A ++ Nd.setsOf B).length) cv90), (94, .int .i64 ((Nd.setsOf A ++ Nd.setsOf B).length : Int)), (95, .int .i64 (k : Int)), (9, .slice a9 ((Nd.dS ((Nd.setsOf A ++ Nd.setsOf B).take k)).length) c9), (11, pt b98 0), (118, .int .i64 (i : Int)), (119, .bool true), (120, .int .i64 (i : Int)), (15, .int .i64 (i : Int))]) (s4 (s4 (s4 (sr rfl (sr rfl (subReg_nil _)))))) ?_
     refine WC.draw 6 [121, 122, 123, 124, 125, 126] [pc (.int .i64 (i : Int)), pc (pt b45 (0 + i * 1)), pc (.int .u64 (Nd.S4get z i)), pc (.int .i64 (i : Int)), pc (pt b98 (0 + i * 1)), pc (.int .u64 (Nd.S4get x97 i))] (by kernel_rfl) (by kernel_rfl) (k4 ⟨KW_pc _, KW_pc _, trivial⟩) rfl rfl rfl (sc4 ?_ ?_ ?_ ?_ (sc ?_ (sc ?_ (StepsOn.nil _)))) ?_
     ·intro σ β w1 hE1 hbi hk
      refine ⟨[], (agree_nil _), ?_⟩
      refine mv ?_
      exact dq hbi rfl
     ·intro σ β w1 hE1 hbi hk
      refine ⟨[(121, .int .i64 (i : Int))], (ak hk 0 (agree_nil _)), ?_⟩
      refine WL.indexAddrA (i := i) rfl rfl Ty.arr26 rfl rfl rfl hi4 ?_
      exact dq hbi rfl
     ·intro σ β w1 hE1 hbi hk
      refine ⟨[(122, pt b45 (0 + i * 1))], (ak hk 1 (agree_nil _)), ?_⟩
      refine WL.load_fld (v := .int .u64 (Nd.S4get z i)) rfl rfl Ty.flat24 rfl (hR8b.ext hE1) (scells_get _ _ hi4) ?_
      exact dq hbi rfl
     ·intro σ β w1 hE1 hbi hk
      refine ⟨[], (agree_nil _), ?_⟩
      refine mv ?_
      exact dq hbi rfl
     ·intro σ β w1 hE1 hbi hk
      refine ⟨[(124, .int .i64 (i : Int))], (ak hk 3 (agree_nil _)), ?_⟩
      refine WL.indexAddrA (i := i) rfl rfl Ty.arr26 rfl rfl rfl hi4 ?_
      exact dq hbi rfl
     ·intro σ β w1 hE1 hbi hk
      refine ⟨[(125, pt b98 (0 + i * 1))], (ak hk 4 (agree_nil _)), ?_⟩
      refine WL.load_fld (v := .int .u64 (Nd.S4get x97 i)) rfl rfl Ty.flat24 rfl (h123.ext hE1) (scells_get _ _ hi4) ?_
      exact dq hbi rfl
     intro σ β w124 hE124 hbi124 hk
     have hz124 := hE124.size
     have hbi := hbi124
     refine WL.know [(121, .int .i64 (i : Int)), (123, .int .u64 (Nd.S4get z i)), (126, .int .u64 (Nd.S4get x97 i))] (aj hk 0 (aj hk 2 (aj hk 5 (agree_nil _)))) ?_
     refine WL.or (v := Nd.orI (Nd.S4get z i) (Nd.S4get x97 i)) rfl rfl rfl rfl rfl ?_
     refine WL.indexAddrA (i := i) rfl rfl Ty.arr26 rfl rfl rfl hi4 ?_
     refine WL.store_fld (new := [.int .u64 (Nd.S4put z i (Nd.orI (Nd.S4get z i) (Nd.S4get x97 i))).a, .int .u64 (Nd.S4put z i (Nd.orI (Nd.S4get z i) (Nd.S4get x97 i))).b, .int .u64 (Nd.S4put z i (Nd.orI (Nd.S4get z i) (Nd.S4get x97 i))).c, .int .u64 (Nd.S4put z i (Nd.orI (Nd.S4get z i) (Nd.S4get x97 i))).d]) rfl Ty.flat24 rfl rfl (hR8b.ext hE124) rfl rfl (by simp; omega) (scells_put _ _ _ hi4) (fun w130 hB129 hR128 => ?_)
     have hzhB129 := hB129.size
     refine WL.dn ?_
     refine WC.region ?_
     refine WL.add (v := (i : Int) + 1) rfl rfl rfl rfl (IntWalk.i64_in _ (by omega)) ?_
     refine mv ?_
     refine WL.nil (fun a_ ha => ?_)
     exact ⟨(i + 1, (Nd.S4put z i (Nd.orI (Nd.S4get z i) (Nd.S4get x97 i)))), _, ha.weaken (s4 (s4 (sr rfl (sr rfl (sr rfl (subReg_nil _)))))), ⟨rfl, ((hE113.trans (hE124.keep _)).trans (hB129.keep (by simp))), ⟨by first | omega | (dsimp only; omega), hR128⟩⟩, by first | omega | (dsimp only; omega)⟩
   | true =>
    refine cT ?_
    refine WC.region ?_
    refine mv ?_
    refine WL.load_box rfl rfl rfl (hR104.ext hE107) Ty.agg26 ?_
    refine WL.buildSlice (vs := [.agg #[.int .u64 x97.a, .int .u64 x97.b, .int .u64 x97.c, .int .u64 x97.d]]) (cells := [.int .u64 x97.a, .int .u64 x97.b, .int .u64 x97.c, .int .u64 x97.d]) rfl rfl Ty.slice47 Ty.zero26 rfl rfl rfl rfl rfl rfl (fun b112 w117 hb113 hE116 hs114 hR115 => ?_)
    have h118 := ((((hF9.ext hE102).but hB105 (fun hk => by have := (hF9.ext hE102).own _ hk; have := hF9.own _ hk; omega)).ext hE107).ext hE116)
    have hol119 := h118.own
    have hob119 := hF9.own
    refine WL.appendF (E := setE) (ys := [x97]) rfl rfl Ty.slice47 Ty.zero26 rfl small_set rfl rfl h118 (FSl.lit hR115 (by simp [setE, scells]) rfl (by decide)) (by simp only [List.length_singleton]; omega) (by omega) ?_
    intro v119 w119 hG119 hF119 hv119
    have hE119 := grown_below hG119 (((hB105.onto ((hE93.after ((((hE37.after (hB34.onto ((hB26.onto (hB23.onto ((((hE2.trans hE5).trans hE8).trans hE14).trans hE20) (by omega)) (by omega)).trans hE30) (by omega)) (by intro k h2; omega)).trans hE43).trans hE49).trans hE91) (by intro k h2; omega)).trans hE102) (by omega)).trans hE107).trans hE116) (by intro k hk; have := hol119 _ hk; omega)
    have hz119 := hE119.size
    have hzz119 := hG119.size
    obtain ⟨av119, cv119, rfl, -, -⟩ := hF119.cases
    have hS119 := hF119.sl.lt
    refine asg ?_
    refine WL.dn ?_
    refine sq ?_
    refine mv ?_
    refine WL.dn ?_
    refine WC.block ?_
    have h120 := (grown_row hG119 (((hB105.row (hR8.ext hE102) (by omega)).ext hE107).ext hE116) (fun hh => by have := hol119 _ hh; have := hob119 _ hh; omega))
    refine WC.weaken (r' := [(0, .slice axs xs.length capxs), (4, .bool false), (5, pt b10 0), (7, pt b36 0), (8, pt b45 0), (93, .slice (some ⟨eb97, eo97, none⟩) ((Nd.setsOf A ++ Nd.setsOf B).length) cv90), (94, .int .i64 ((Nd.setsOf A ++ Nd.setsOf B).length : Int)), (95, .int .i64 (k : Int)), (9, .slice av119 (((Nd.dS ((Nd.setsOf A ++ Nd.setsOf B).take k)) ++ [x97]).length) cv119), (11, pt b98 0), (118, .int .i64 0)]) (s4 (s4 (sr rfl (sr rfl (sr rfl (subReg_nil _)))))) ?_
    refine WC.loop (σ := Nat × S4) (fun s r_ w_ => r_ = [(0, .slice axs xs.length capxs), (4, .bool false), (5, pt b10 0), (7, pt b36 0), (8, pt b45 0), (93, .slice (some ⟨eb97, eo97, none⟩) ((Nd.setsOf A ++ Nd.setsOf B).length) cv90), (94, .int .i64 ((Nd.setsOf A ++ Nd.setsOf B).length : Int)), (95, .int .i64 (k : Int)), (9, .slice av119 (((Nd.dS ((Nd.setsOf A ++ Nd.setsOf B).take k)) ++ [x97]).length) cv119), (11, pt b98 0), (118, .int .i64 (s.1 : Int))] ∧ Keep (Eq b45) w119 w_ ∧ (s.1 ≤ 4 ∧ Row w_ b45 (scells s.2) 26)) (fun s => 4 - s.1) (0, s) ⟨rfl, (Keep.refl _ _), ⟨Nat.zero_le _, h120⟩⟩ ?_
    rintro ⟨i, z⟩ r_ w123 ⟨rfl, hE121, hI122⟩
    have hzhE121 := hE121.size
    dsimp only at hI122
    obtain ⟨hi, hR8b⟩ := hI122
    refine WC.weaken (r' := [(0, .slice axs xs.length capxs), (4, .bool false), (5, pt b10 0), (7, pt b36 0), (8, pt b45 0), (93, .slice (some ⟨eb97, eo97, none⟩) ((Nd.setsOf A ++ Nd.setsOf B).length) cv90), (94, .int .i64 ((Nd.setsOf A ++ Nd.setsOf B).length : Int)), (95, .int .i64 (k : Int)), (9, .slice av119 (((Nd.dS ((Nd.setsOf A ++ Nd.setsOf B).take k)) ++ [x97]).length) cv119), (11, pt b98 0), (118, .int .i64 (i : Int))]) (s4 (s4 (sr rfl (sr rfl (sr rfl (subReg_nil _)))))) ?_
    refine sq ?_
    cases hc124 : decide (((i : Int) : Int) < 4) with
    | false =>
     refine WL.lss rfl rfl rfl rfl hc124 ?_
     have hp124 := of_decide_eq_false hc124
     refine WL.dn ?_
     refine WC.seqk ?_
     refine cF ?_
     refine WC.exit (fun a_ ha => ?_)
     refine exit_then ?_
     refine exit_then ?_
     refine exit_here ?_
     refine WC.at ?_ ha
     refine WC.region ?_
     refine WL.add (v := (k : Int) + 1) rfl rfl rfl rfl (IntWalk.i64_in _ (by omega)) ?_
     refine mv ?_
     refine WL.nil (fun a_ ha => ?_)
     exact ⟨(k + 1, .slice av119 (((Nd.dS ((Nd.setsOf A ++ Nd.setsOf B).take k)) ++ [x97]).length) cv119, z), _, ha.weaken (s4 (s4 (sr rfl (subReg_nil _)))), ⟨rfl, (((((hB105.keepNew (hE93.trans (hE102.keep _)) (by omega)).trans (hE107.keep _)).trans (hE116.keep _)).grown hG119 (by intro k hh; have := hol119 _ hh; have := hob119 _ hh; omega)).trans hE121), ⟨by first | omega | (dsimp only; omega), (by dsimp only; rw [Nd.dS_at hx97 hjl]; have hq : (!((Nd.dS ((Nd.setsOf A ++ Nd.setsOf B).take k)).take j).any (fun t => x97 == t)) = true := hc111; simp only [Bool.not_eq_true', Bool.not_eq_false'] at hq; rw [hq]; exact (hF119.kept hE121 (by intro k hk h2; have := hF119.own _ hk; omega))), hR8b⟩⟩, by first | omega | (dsimp only; omega)⟩
    | true =>
     refine WL.lss rfl rfl rfl rfl hc124 ?_
     have hp124 := of_decide_eq_true hc124
     refine WL.dn ?_
     refine WC.seqk ?_
     refine cT ?_
     refine WC.sk ?_
     refine WC.seqk ?_
     refine WC.block ?_
     refine sq ?_
     refine mv ?_
     refine asg ?_
     refine WL.dn ?_
     have hi4 : i < 4 := by omega
     have h125 := (hE121.row (grown_row hG119 (((hB105.row ((hE93.row (((h39.ext hE43).ext hE49).ext hE91) (by omega)).ext hE102) (by omega)).ext hE107).ext hE116) (fun hh => by have := hol119 _ hh; have := hob119 _ hh; omega)) (by omega))
     have h126 := (hE121.node ((((((hE93.node (((h40.ext hE43).ext hE49).ext hE91) (by intro k h1 h2; (try dsimp only at h1); (repeat' first | (guard_hyp h1 : _ ∨ _; refine Or.elim h1 (fun h1 => ?_) (fun h1 => ?_)) | (guard_hyp h1 : _ ∧ _; have hx := h1.2; replace h1 := h1.1)) <;> first | contradiction | omega)).ext hE102).bu hB105).ext hE107).ext hE116).grown hG119 (by intro k h1 hlt hh; have := hol119 _ hh; have := hob119 _ hh; first | omega | ((try dsimp only at h1); (repeat' first | (guard_hyp h1 : _ ∨ _; refine Or.elim h1 (fun h1 => ?_) (fun h1 => ?_)) | (guard_hyp h1 : _ ∧ _; have hx := h1.2; replace h1 := h1.1)) <;> first | contradiction | omega))) (by intro k h1 h2; (try dsimp only at h1); (repeat' first | (guard_hyp h1 : _ ∨ _; refine Or.elim h1 (fun h1 => ?_) (fun h1 => ?_)) | (guard_hyp h1 : _ ∧ _; have hx := h1.2; replace h1 := h1.1)) <;> first | contradiction | omega))
     have h127 := (hE121.row (grown_row hG119 (((hB105.row ((hE93.row (((h41.ext hE43).ext hE49).ext hE91) (by omega)).ext hE102) (by omega)).ext hE107).ext hE116) (fun hh => by have := hol119 _ hh; have := hob119 _ hh; omega)) (by omega))
     have h128 := (hE121.node ((((((hE93.node (((h42.ext hE43).ext hE49).ext hE91) (by intro k h1 h2; (try dsimp only at h1); (repeat' first | (guard_hyp h1 : _ ∨ _; refine Or.elim h1 (fun h1 => ?_) (fun h1 => ?_)) | (guard_hyp h1 : _ ∧ _; have hx := h1.2; replace h1 := h1.1)) <;> first | contradiction | omega)).ext hE102).bu hB105).ext hE107).ext hE116).grown hG119 (by intro k h1 hlt hh; have := hol119 _ hh; have := hob119 _ hh; first | omega | ((try dsimp only at h1); (repeat' first | (guard_hyp h1 : _ ∨ _; refine Or.elim h1 (fun h1 => ?_) (fun h1 => ?_)) | (guard_hyp h1 : _ ∧ _; have hx := h1.2; replace h1 := h1.1)) <;> first | contradiction | omega))) (by intro k h1 h2; (try dsimp only at h1); (repeat' first | (guard_hyp h1 : _ ∨ _; refine Or.elim h1 (fun h1 => ?_) (fun h1 => ?_)) | (guard_hyp h1 : _ ∧ _; have hx := h1.2; replace h1 := h1.1)) <;> first | contradiction | omega))
     have h129 := (hE121.row (grown_row hG119 (((hB105.row ((hE93.row (((hR36.ext hE43).ext hE49).ext hE91) (by omega)).ext hE102) (by omega)).ext hE107).ext hE116) (fun hh => by have := hol119 _ hh; have := hob119 _ hh; omega)) (by omega))
     have h130 := (hE121.node ((((((hE93.node (((hn36.ext hE43).ext hE49).ext hE91) (by intro k h1 h2; (try dsimp only at h1); (repeat' first | (guard_hyp h1 : _ ∨ _; refine Or.elim h1 (fun h1 => ?_) (fun h1 => ?_)) | (guard_hyp h1 : _ ∧ _; have hx := h1.2; replace h1 := h1.1)) <;> first | contradiction | omega)).ext hE102).bu hB105).ext hE107).ext hE116).grown hG119 (by intro k h1 hlt hh; have := hol119 _ hh; have := hob119 _ hh; first | omega | ((try dsimp only at h1); (repeat' first | (guard_hyp h1 : _ ∨ _; refine Or.elim h1 (fun h1 => ?_) (fun h1 => ?_)) | (guard_hyp h1 : _ ∧ _; have hx := h1.2; replace h1 := h1.1)) <;> first | contradiction | omega))) (by intro k h1 h2; (try dsimp only at h1); (repeat' first | (guard_hyp h1 : _ ∨ _; refine Or.elim h1 (fun h1 => ?_) (fun h1 => ?_)) | (guard_hyp h1 : _ ∧ _; have hx := h1.2; replace h1 := h1.1)) <;> first | contradiction | omega))
     have h131 := (hE121.row (grown_row hG119 ((hR104.ext hE107).ext hE116) (fun hh => by have := hol119 _ hh; have := hob119 _ hh; omega)) (by omega))
     refine WC.weaken (r' := [(0, .slice axs xs.length capxs), (4, .bool false), (5, pt b10 0), (7, pt b36 0), (8, pt b45 0), (93, .slice (some ⟨eb97, eo97, none⟩) ((Nd.setsOf A ++ Nd.setsOf B).length) cv90), (94, .int .i64 ((Nd.setsOf A ++ Nd.setsOf B).length : Int)), (95, .int .i64 (k : Int)), (9, .slice av119 (((Nd.dS ((Nd.setsOf A ++ Nd.setsOf B).take k)) ++ [x97]).length) cv119), (11, pt b98 0), (118, .int .i64 (i : Int)), (119, .bool true), (120, .int .i64 (i : Int)), (15, .int .i64 (i : Int))]) (s4 (s4 (s4 (sr rfl (sr rfl (subReg_nil _)))))) ?_
     refine WC.draw 6 [121, 122, 123, 124, 125, 126] [pc (.int .i64 (i : Int)), pc (pt b45 (0 + i * 1)), pc (.int .u64 (Nd.S4get z i)), pc (.int .i64 (i : Int)), pc (pt b98 (0 + i * 1)), pc (.int .u64 (Nd.S4get x97 i))] (by kernel_rfl) (by kernel_rfl) (k4 ⟨KW_pc _, KW_pc _, trivial⟩) rfl rfl rfl (sc4 ?_ ?_ ?_ ?_ (sc ?_ (sc ?_ (StepsOn.nil _)))) ?_
     ·intro σ β w1 hE1 hbi hk
      refine ⟨[], (agree_nil _), ?_⟩
      refine mv ?_
      exact dq hbi rfl
     ·intro σ β w1 hE1 hbi hk
      refine ⟨[(121, .int .i64 (i : Int))], (ak hk 0 (agree_nil _)), ?_⟩
      refine WL.indexAddrA (i := i) rfl rfl Ty.arr26 rfl rfl rfl hi4 ?_
      exact dq hbi rfl
     ·intro σ β w1 hE1 hbi hk
      refine ⟨[(122, pt b45 (0 + i * 1))], (ak hk 1 (agree_nil _)), ?_⟩
      refine WL.load_fld (v := .int .u64 (Nd.S4get z i)) rfl rfl Ty.flat24 rfl (hR8b.ext hE1) (scells_get _ _ hi4) ?_
      exact dq hbi rfl
     ·intro σ β w1 hE1 hbi hk
      refine ⟨[], (agree_nil _), ?_⟩
      refine mv ?_
      exact dq hbi rfl
     ·intro σ β w1 hE1 hbi hk
      refine ⟨[(124, .int .i64 (i : Int))], (ak hk 3 (agree_nil _)), ?_⟩
      refine WL.indexAddrA (i := i) rfl rfl Ty.arr26 rfl rfl rfl hi4 ?_
      exact dq hbi rfl
     ·intro σ β w1 hE1 hbi hk
      refine ⟨[(125, pt b98 (0 + i * 1))], (ak hk 4 (agree_nil _)), ?_⟩
      refine WL.load_fld (v := .int .u64 (Nd.S4get x97 i)) rfl rfl Ty.flat24 rfl (h131.ext hE1) (scells_get _ _ hi4) ?_
      exact dq hbi rfl
     intro σ β w132 hE132 hbi132 hk
     have hz132 := hE132.size
     have hbi := hbi132
     refine WL.know [(121, .int .i64 (i : Int)), (123, .int .u64 (Nd.S4get z i)), (126, .int .u64 (Nd.S4get x97 i))] (aj hk 0 (aj hk 2 (aj hk 5 (agree_nil _)))) ?_
     refine WL.or (v := Nd.orI (Nd.S4get z i) (Nd.S4get x97 i)) rfl rfl rfl rfl rfl ?_
     refine WL.indexAddrA (i := i) rfl rfl Ty.arr26 rfl rfl rfl hi4 ?_
     refine WL.store_fld (new := [.int .u64 (Nd.S4put z i (Nd.orI (Nd.S4get z i) (Nd.S4get x97 i))).a, .int .u64 (Nd.S4put z i (Nd.orI (Nd.S4get z i) (Nd.S4get x97 i))).b, .int .u64 (Nd.S4put z i (Nd.orI (Nd.S4get z i) (Nd.S4get x97 i))).c, .int .u64 (Nd.S4put z i (Nd.orI (Nd.S4get z i) (Nd.S4get x97 i))).d]) rfl Ty.flat24 rfl rfl (hR8b.ext hE132) rfl rfl (by simp; omega) (scells_put _ _ _ hi4) (fun w138 hB137 hR136 => ?_)
     have hzhB137 := hB137.size
     refine WL.dn ?_
     refine WC.region ?_
     refine WL.add (v := (i : Int) + 1) rfl rfl rfl rfl (IntWalk.i64_in _ (by omega)) ?_
     refine mv ?_
     refine WL.nil (fun a_ ha => ?_)
     exact ⟨(i + 1, (Nd.S4put z i (Nd.orI (Nd.S4get z i) (Nd.S4get x97 i)))), _, ha.weaken (s4 (s4 (sr rfl (sr rfl (sr rfl (subReg_nil _)))))), ⟨rfl, ((hE121.trans (hE132.keep _)).trans (hB137.keep (by simp))), ⟨by first | omega | (dsimp only; omega), hR136⟩⟩, by first | omega | (dsimp only; omega)⟩
  | true =>
   refine WL.lss rfl rfl rfl rfl hc110 ?_
   have hp110 := of_decide_eq_true hc110
   refine WL.dn ?_
   refine WC.seqk ?_
   refine cT ?_
   refine WC.sk ?_
   refine WC.seqk ?_
   refine WC.block ?_
   refine sq ?_
   have h111 := (((hS9.ext hE102).bu hB105).ext hE107)
   obtain ⟨x112, hx112⟩ : ∃ x, (Nd.dS ((Nd.setsOf A ++ Nd.setsOf B).take k))[j]? = some x := ⟨_, List.getElem?_eq_getElem (by omega)⟩
   obtain ⟨eb112, eo112, hea112, hD112, her112⟩ := (h111).at hx112
   subst hea112
   refine WL.indexAddr (i := j) rfl rfl Ty.slice47 rfl rfl rfl (by omega) ?_
   refine WL.load_agg (l := scells x112) rfl rfl Ty.agg26 rfl her112 ?_
   refine WL.alloc rfl rfl Ty.zero26 rfl (fun b113 w118 hb114 hE117 hs115 hR116 => ?_)
   refine WL.store_box rfl rfl rfl hR116 Ty.agg26 rfl rfl (fun w121 hB120 hR119 => ?_)
   have hzhB120 := hB120.size
   refine WL.dn ?_
   refine WC.region ?_
   refine mv ?_
   refine mv ?_
   cases hc122 : ((Nd.dS ((Nd.setsOf A ++ Nd.setsOf B).take k)).take j).any (fun t => x97 == t) with
   | false =>
    have h123 := (hB120.row ((hR104.ext hE107).ext hE117) (by omega))
    refine WL.load_box rfl rfl rfl h123 Ty.agg26 ?_
    refine WL.load_box rfl rfl rfl hR119 Ty.agg26 ?_
    cases hc124 : (x97 == x112) with
    | false =>
     refine WL.seteql (s := x97) (s' := x112) rfl rfl Ty.arr26 Ty.eqg26 Try.underlying24 rfl rfl hc124 ?_
     refine pF ?_
     refine asg ?_
     refine WL.dn ?_
     refine WC.region ?_
     refine WL.add (v := (j : Int) + 1) rfl rfl rfl rfl (IntWalk.i64_in _ (by omega)) ?_
     refine mv ?_
     refine WL.nil (fun a_ ha => ?_)
     exact ⟨j + 1, _, ha.weaken (sr rfl (sr rfl (sr rfl (sr rfl (sr rfl (sr rfl (sr rfl (sr rfl (sr rfl (sr rfl (sr rfl (sr rfl (sr rfl (subReg_cons (Eq.trans (b := some (Value.bool false)) rfl (congrArg (fun q => some (Value.bool q)) (by rw [Nd.any_succ hx112]; simp only [hc122, hc124]; rfl))) (subReg_nil _))))))))))))))), ⟨rfl, (hB120.onto (hE107.trans hE117) (by omega)), (by omega)⟩, by first | omega | (dsimp only; omega)⟩
    | true =>
     refine WL.seteql (s := x97) (s' := x112) rfl rfl Ty.arr26 Ty.eqg26 Try.underlying24 rfl rfl hc124 ?_
     refine pF ?_
     refine asg ?_
     refine WL.dn ?_
     refine WC.region ?_
     refine WL.add (v := (j : Int) + 1) rfl rfl rfl rfl (IntWalk.i64_in _ (by omega)) ?_
     refine mv ?_
     refine WL.nil (fun a_ ha => ?_)
     exact ⟨j + 1, _, ha.weaken (sr rfl (sr rfl (sr rfl (sr rfl (sr rfl (sr rfl (sr rfl (sr rfl (sr rfl (sr rfl (sr rfl (sr rfl (sr rfl (subReg_cons (Eq.trans (b := some (Value.bool true)) rfl (congrArg (fun q => some (Value.bool q)) (by rw [Nd.any_succ hx112]; simp only [hc122, hc124]; rfl))) (subReg_nil _))))))))))))))), ⟨rfl, (hB120.onto (hE107.trans hE117) (by omega)), (by omega)⟩, by first | omega | (dsimp only; omega)⟩
   | true =>
    refine ps ?_
    refine ps ?_
    refine ps ?_
    refine pT ?_
    refine asg ?_
    refine WL.dn ?_
    refine WC.region ?_
    refine WL.add (v := (j : Int) + 1) rfl rfl rfl rfl (IntWalk.i64_in _ (by omega)) ?_
    refine mv ?_
    refine WL.nil (fun a_ ha => ?_)
    exact ⟨j + 1, _, ha.weaken (sr rfl (sr rfl (sr rfl (sr rfl (sr rfl (sr rfl (sr rfl (sr rfl (sr rfl (sr rfl (sr rfl (sr rfl (sr rfl (subReg_cons (Eq.trans (b := some (Value.bool true)) rfl (congrArg (fun q => some (Value.bool q)) (by rw [Nd.any_succ hx112]; simp only [hc122]; rfl))) (subReg_nil _))))))))))))))), ⟨rfl, (hB120.onto (hE107.trans hE117) (by omega)), (by omega)⟩, by first | omega | (dsimp only; omega)⟩
end Go.Proofs.Ytaggidjijekpbaa
namespace Go.Proofs.Ytaggidjijekpbaa
open Go.RowKit Go.WideShapes Go.ChangeShapes Go.Deep
section
variable {H : Type} {enc : TypeId × Value → H} {P : Program}
theorem u8_wf {n : Int} (h : (Lit.int .u8 n).wf = true) : 0 ≤ n ∧ n ≤ 255 := by
  simp only [Lit.wf, Bool.and_eq_true, decide_eq_true_eq] at h
  exact h
theorem open_small {w : World} {base : Nat} {held : Bool} {t e : TypeId} {f0 f1 f2 : Field} {fuel : Nat} {v : Value} {x : DataW H × List MemPlace} (ht : P.underlying t = some (.slice e)) (he : P.underlying e = some (.struct #[f0, f1, f2]))
    (ce : P.cellsOf e = 3) (ho : f0.offset = 0 ∧ f1.offset = 1 ∧ f2.offset = 2) (hc : P.cellsOf f0.type = 1 ∧ P.cellsOf f1.type = 1 ∧ P.cellsOf f2.type = 1)
    (hu : P.underlying f0.type = some (.int .u8) ∧ P.underlying f1.type = some (.int .u8) ∧ P.underlying f2.type = some (.int .u8))
    (h : DataW.trod enc P w base (fun _ => true) held fuel t [v] = some x) : ∃ a cap xs, v = .slice a xs.length cap ∧ SmallV (fun _ => True) w (.slice a xs.length cap) xs := by
  rcases open_slice ht h with ⟨h0, -⟩ | ⟨a, len, cap, m, n, D, Pl, h0, hb, hl, hm, hmm, -, hx⟩
  · simp only [List.cons.injEq, and_true] at h0
    subst h0
    exact ⟨none, 0, [], rfl, ⟨none, 0, rfl, by simp, .inl rfl⟩, by simp⟩
  · simp only [List.cons.injEq, and_true] at h0
    subst h0
    have hmm : m = cap := by simpa using hmm
    subst hmm
    have each : ∀ i, i < len → ∃ y : Int × Int × Int, (∀ j u, (cells3 y)[j]? = some u → w.cell? (a.add (i * 3 + j)) = some u) ∧ (0 ≤ y.1 ∧ y.1 ≤ 255) ∧ (0 ≤ y.2.1 ∧ y.2.1 ≤ 255) ∧ 0 ≤ y.2.2 ∧ y.2.2 ≤ 255 := by
      intro i hi
      obtain ⟨cs', h1, h2⟩ := hx i (by omega)
      rw [ce] at h1
      obtain ⟨_, hlen, hcell⟩ := World.cells?_some h1
      obtain ⟨ys, k, _, _, _, hyl, hf⟩ := DataW.trod_struct he h2
      match ys, hyl, cs', hlen with
      | [y0, y1, y2], _, [v0, v1, v2], _ =>
        have g0 := hf 0 f0 rfl
        have g1 := hf 1 f1 rfl
        have g2 := hf 2 f2 rfl
        simp [ho.1, ho.2.1, ho.2.2, hc.1, hc.2.1, hc.2.2] at g0 g1 g2
        obtain ⟨n0, e0, _, w0⟩ := DataW.trod_int hu.1 g0
        obtain ⟨n1, e1, _, w1⟩ := DataW.trod_int hu.2.1 g1
        obtain ⟨n2, e2, _, w2⟩ := DataW.trod_int hu.2.2 g2
        simp only [List.cons.injEq, and_true] at e0 e1 e2
        subst e0; subst e1; subst e2
        have r0 := hcell 0 (by omega)
        have r1 := hcell 1 (by omega)
        have r2 := hcell 2 (by omega)
        rw [add_add] at r0 r1 r2
        refine ⟨(n0, n1, n2), ?_, ?_, ?_, ?_⟩
        · intro j u hj
          match j with
          | 0 => simp at hj; subst hj; simpa using r0
          | 1 => simp at hj; subst hj; simpa using r1
          | 2 => simp at hj; subst hj; simpa using r2
          | j + 3 => simp at hj
        · exact u8_wf w0
        · exact u8_wf w1
        · exact u8_wf w2
    obtain ⟨X, hX⟩ := choose_lt each
    refine ⟨some a, m, (List.range len).map X, by simp, ⟨some a, m, by simp, ?_, ?_⟩, ?_⟩
    · simp only [maxLen] at hm
      simp only [List.length_map, List.length_range]; simp at hm; omega
    · by_cases h0 : len = 0
      · left; subst h0; simp
      · right
        have hsp : a.spot = none := by
          have h1 := (hX 0 (by omega)).1 0 _ rfl
          cases hs : a.spot with
          | none => rfl
          | some s =>
            rw [Nat.zero_mul, Nat.add_zero] at h1
            have hz : a.add 0 = a := by simp [Addr.add]
            rw [hz] at h1
            unfold World.cell? at h1
            rw [hs] at h1
            revert h1
            split
            · intro h1; simp at h1
            · intro h1; cases h1
        obtain ⟨b, o, s⟩ := a
        simp only at hsp
        subst hsp
        refine ⟨b, o, rfl, trivial, fun i l hl j u hj => ?_⟩
        rw [List.getElem?_map] at hl
        have hi : i < len := by
          rcases Nat.lt_or_ge i len with h | h
          · exact h
          · rw [List.getElem?_eq_none (by simpa using h)] at hl; simp at hl
        rw [List.getElem?_range hi] at hl
        simp only [Option.map_some, Option.some.injEq] at hl
        subst hl
        have := (hX i hi).1 j u hj
        rw [addr_add] at this
        rw [Nat.add_assoc]; exact this
    · intro x hx
      obtain ⟨i, hi, rfl⟩ := List.mem_map.1 hx
      exact (hX i (by simpa using hi)).2
theorem post_of_below {f : Func} {s : ChangeSpec} {apart fresh handsOn again : Bool} {W W' : World} {args : Array Value} {v : Value} {ds gs : List (DataW H)} {before pa pv : List MemPlace}
    (hW : DataW.Whole enc P f.params.toList s.vars apart W args.toList ds gs before)
    (hres : ∀ (b : Nat) (sp : Nat → Bool) (hd : Bool), DataW.TrodAll enc P W' b sp hd f.resultTypes.toList (v.resultList f.resultTypes.size) (s.fn H (ds ++ gs)).results [])
    (hargs : ∀ sp : Nat → Bool, (∀ p ∈ before, sp p.block = true) → DataW.TrodAll enc P W' 0 sp true f.params.toList args.toList (s.fn H (ds ++ gs)).args pa)
    (hvars : ∀ sp : Nat → Bool, (∀ p ∈ before, sp p.block = true) → DataW.TrodVars enc P W' sp s.vars (s.fn H (ds ++ gs)).vars pv)
    (hps : before = pa ++ pv) (hb : Below W.heap.size W W')
    (hok : ∀ (j : Nat) (t : TypeId) (r : Value), f.resultTypes[j]? = some t → (v.resultList f.resultTypes.size)[j]? = some r → Value.okWide P W' .any 0 t r) :
    s.post enc P f apart fresh handsOn again W args v W' := by
  have hlt : ∀ p ∈ before, p.block < W.heap.size := fun p hp => hW.lt p hp
  have hold : ∀ p ∈ before, (fun b => decide (b < W.heap.size)) p.block = true := fun p hp => by simpa using hlt p hp
  refine ⟨ds, gs, before, [], pa, pv, hW, hres _ _ _, hargs _ hold, hvars _ hold, World.keptBut_mono (fun p hp => ⟨hp, ?_⟩) (hb.frame (· ∈ before)), fun _ => ?_⟩
  · rw [hps, List.mem_append] at hp
    exact Or.inr hp
  · obtain ⟨_, _, _, _, _, hz, hn⟩ := hW
    refine ⟨hok, _, _, ([] ++ pa) ++ pv, ⟨[] ++ pa, pv, trodAll_append (hargs _ (fun _ _ => rfl)) (hres _ _ _), hvars _ (fun _ _ => rfl), rfl, ?_, ?_⟩, ?_⟩
    · intro b off hp
      have hin : MemPlace.cell b off ∈ before := by rw [hps]; simpa using hp
      rw [hb.frozen (hlt _ hin)]
      exact hz b off hin
    · intro ha
      have := hn ha
      rw [hps] at this
      simpa using this
    · intro p hp _
      rw [hps]
      simpa using hp
theorem stay {t : TypeId} (hl : laidOutB P = true) (hr : P.readableRec t = true) (hrow : t < P.types.size) {W W' : World} {v : Value} {d : DataW H} {ps : List MemPlace}
    (h : DataW.Trod enc P W 0 (fun _ => true) true t v d ps) (hb : Below W.heap.size W W') (hlt : ∀ x ∈ ps, x.block < W.heap.size) {sp : Nat → Bool} (hs : ∀ x ∈ ps, sp x.block = true) : DataW.Trod enc P W' 0 sp true t v d ps :=
  WideElems.Trod_stays hl hr hrow h (fun x hx => hb.same (hlt x hx)) hs
end
end Go.Proofs.Ytaggidjijekpbaa
namespace Go.Proofs.Ytaggidjijekpbaa
open Go.ChangeShapes Go.WideShapes Go.ChangeAt Go.RowKit
theorem own_rxParts : ownKnob Try.prog.godebug = none := by kernel_rfl
theorem laid_rxParts : laidOutB Try.prog = true := by kernel_rfl
set_option maxRecDepth 100000 in
theorem lifted_rxParts (os : Os) (started : os.Started) (H : Type) (enc : TypeId × Value → H) :
  ReturnsInHanded {} Try.checked os 6 .any (Rows.rxPartsSpec.pre6 enc Try.prog Try.f6 Rows.rxPartsRow.domain false) (Rows.rxPartsSpec.post enc Try.prog Try.f6 false true false false) := by
 refine returnsInHanded_of_change (C := Try.checked) own_rxParts started (by kernel_rfl) Try.func6
  (ChangeSpec.witness6 (enc := enc) (C := Try.checked) false ⟨#[], #[.slice none 0 0, .slice none 0 0], []⟩ 8 (by kernel_rfl) (by kernel_rfl) (by kernel_rfl) (by kernel_rfl)) ?_
 intro W base args ds gs before hval0 hW hcnd _
 have hval : ∀ (j : Nat) t v, Try.f6.params[j]? = some t → args[j]? = some v → Value.okWide Try.prog W .any base t v := hval0
 have hW' := hW
 obtain ⟨p, q, hA0, hV, rfl, hfz, hnd⟩ := hW
 have hA : DataW.TrodAll enc Try.prog W 0 (fun _ => true) true Try.f6.params.toList args.toList ds p := hA0
 rw [Try.params6] at hA hval
 obtain ⟨v0, v1, d0, d1, p0, p1, rfl, rfl, rfl, h0, h1⟩ := trodAll_two hA
 obtain ⟨rfl, rfl⟩ := trodVars_none hV
 simp only [List.append_nil, List.nil_append, List.append_assoc] at hW'
 have k0 := h0
 have hlt0 : ∀ x ∈ p0, x.block < W.heap.size := fun x hx => hW'.lt x (by simp [hx])
 obtain ⟨a0, len0, cap0, rfl⟩ := okWide_slice Try.underlying22 (hval 0 22 v0 rfl rfl)
 obtain ⟨fu0, e0⟩ := h0
 obtain ⟨b0, c0, xs0, hq0, hx0⟩ := open_small Try.underlying22 Try.underlying53 (by kernel_rfl) ⟨rfl, rfl, rfl⟩ ⟨by kernel_rfl, by kernel_rfl, by kernel_rfl⟩ ⟨Try.underlying5, Try.underlying5, Try.underlying5⟩ e0
 cases hq0
 have k1 := h1
 have hlt1 : ∀ x ∈ p1, x.block < W.heap.size := fun x hx => hW'.lt x (by simp [hx])
 obtain ⟨a1, len1, cap1, rfl⟩ := okWide_slice Try.underlying22 (hval 1 22 v1 rfl rfl)
 obtain ⟨fu1, e1⟩ := h1
 obtain ⟨b1, c1, xs1, hq1, hx1⟩ := open_small Try.underlying22 Try.underlying53 (by kernel_rfl) ⟨rfl, rfl, rfl⟩ ⟨by kernel_rfl, by kernel_rfl, by kernel_rfl⟩ ⟨Try.underlying5, Try.underlying5, Try.underlying5⟩ e1
 cases hq1
 clear hA0 hval0
 refine (RxParts_ok W _ _ _ _ hx0 _ _ _ _ hx1 ).mono fun e W' ⟨he, hw⟩ => ?_
 subst he
 exact ⟨_, rfl, post_of_below (pa := p0 ++ (p1)) (pv := []) hW' (fun _ _ _ => trodAll_mk1 (shut_bool Try.underlying4 true)) (fun sp hsp => trodAll_mk2 (stay laid_rxParts (by kernel_rfl) (of_decide_eq_true (by kernel_rfl)) k0 hw.toBelow hlt0 (fun x hx => hsp x (by simp [hx]))) (stay laid_rxParts (by kernel_rfl) (of_decide_eq_true (by kernel_rfl)) k1 hw.toBelow hlt1 (fun x hx => hsp x (by simp [hx])))) (fun _ _ => rfl) (by simp) hw.toBelow (ok_one (by kernel_rfl) rfl (okWide_bool_mk Try.underlying4 true))⟩
theorem rxParts_holds : Rows.RxPartsSaid :=
 OpenClaim.holds_of_wide 6 Try.f6 rfl rfl rfl rfl rfl rfl rfl ⟨rfl, rfl, rfl, rfl, rfl⟩ rfl rfl rfl rfl rfl (by kernel_rfl) Try.func6 (by kernel_rfl)
  (of_decide_eq_true (by kernel_rfl)) (by unfold Func.isWrapper; rw [if_neg (by decide +kernel)]; exact ⟨rfl, rfl⟩)
  (fun os started H enc _ => lifted_rxParts os started H enc)
end Go.Proofs.Ytaggidjijekpbaa
