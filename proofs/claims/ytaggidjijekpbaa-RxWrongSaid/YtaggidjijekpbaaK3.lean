/- Walks through the program's functions: each computes what the plain Lean function says. Printed by our own gen/r8.py. -/
import Derived.Test.YtaggidjijekpbaaJ
import Derived.Test.YtaggidjijekpbaaLawN
import Derived.Test.YtaggidjijekpbaaPel
import Derived.Test.YtaggidjijekpbaaLawW
import Derived.KernelRfl
namespace Go.Proofs.Ytaggidjijekpbaa
open Go.Proofs Go.RowKit

set_option maxRecDepth 20000 in
set_option maxHeartbeats 4000000 in
theorem RxWrong_ok (w : World) (Dxs : Nat → Prop) (axs : Option Addr) (capxs : Nat) (xs : List (Int × Int × Int)) (hxxs : SmallV Dxs w (.slice axs xs.length capxs) xs) (Dys : Nat → Prop) (ays : Option Addr) (capys : Nat) (ys : List (Int × Int × Int)) (hxys : SmallV Dys w (.slice ays ys.length capys) ys) (way : Int) (hw : 0 ≤ way ∧ way ≤ 255) :
    Calls Try.prog 5 #[.slice axs xs.length capxs, .slice ays ys.length capys, .int .u8 way] w fun e w' => e = .returned (.bool true) ∧ Ext w w' := by
  have hBxs : Nd.Bytes xs := fun q hq => by have := hxxs.2 q hq; omega
  obtain ⟨A, hA⟩ : ∃ T, T = Nd.made xs := ⟨_, rfl⟩
  have hmA : Nd.MadeOk A := hA ▸ Nd.made_ok' hBxs
  have hfA := hmA.fine
  have hsA := hmA.sizes
  have hpA := hmA.posns
  have hgA := hmA.groups
  have hBys : Nd.Bytes ys := fun q hq => by have := hxys.2 q hq; omega
  obtain ⟨B, hB⟩ : ∃ T, T = Nd.made ys := ⟨_, rfl⟩
  have hmB : Nd.MadeOk B := hB ▸ Nd.made_ok' hBys
  have hfB := hmB.fine
  have hsB := hmB.sizes
  have hpB := hmB.posns
  have hgB := hmB.groups
  obtain ⟨bad, hbad⟩ := Nd.bad_at (b := B) (w := way) hw.1
  have hbn := Nd.bads_not (b := B) (w := way) hw.1 _ (List.mem_of_getElem? hbad)
  have hbz := Nd.bads_size (w := way) hmB.size _ (List.mem_of_getElem? hbad)
  have h200 := Nd.mod_bd (x := way) (n := 200) hw.1 (by decide)
  have h12 := Nd.mod_bd (x := way) (n := 12) hw.1 (by decide)
  refine Calls.enter (args := [.slice axs xs.length capxs, .slice ays ys.length capys, .int .u8 way]) Try.func5 rfl rfl rfl rfl ?_
  refine WC.seqk ?_
  refine WC.region ?_
  refine WL.assign rfl rfl rfl ?_
  refine WL.done' ?_ (fun _ _ h => h)
  refine WC.seqk ?_
  refine WC.seqk ?_
  refine WC.region ?_
  refine WL.call rfl rfl rfl Ty.ent8 (awake_ok _) ?_
  rintro _ w2 ⟨rfl, hE1⟩
  have hzhE1 := hE1.size
  refine ⟨_, rfl, ?_⟩
  refine WL.not rfl rfl rfl ?_
  refine WL.done' ?_ (fun _ _ h => h)
  refine WC.cond_f rfl ?_
  refine WC.skip'' ?_ (fun _ _ h => h)
  refine WC.seqk ?_
  refine WC.region ?_
  refine WL.move rfl rfl rfl ?_
  refine WL.call rfl rfl rfl Ty.ent9 (made_ok _ _ _ _ xs (hxxs.ext hE1)) ?_
  rintro _ w5 ⟨l3, rfl, hr3, hE4⟩
  have hzhE4 := hE4.size
  refine ⟨_, rfl, ?_⟩
  rw [← hA] at hr3
  have hn3 := hr3.lt
  obtain ⟨sl3, rfl, hts3⟩ := hn3.opn
  obtain ⟨a3, cap3, rfl, hlen3, -⟩ := hts3.get
  refine WL.move rfl rfl rfl ?_
  have h7 := ((hxys.ext hE1).ext hE4)
  refine WL.call rfl rfl rfl Ty.ent9 (made_ok _ _ _ _ ys h7) ?_
  rintro _ w9 ⟨l6, rfl, hr6, hE8⟩
  have hzhE8 := hE8.size
  refine ⟨_, rfl, ?_⟩
  rw [← hB] at hr6
  have hn6 := hr6.lt
  obtain ⟨sl6, rfl, hts6⟩ := hn6.opn
  obtain ⟨a6, cap6, rfl, hlen6, -⟩ := hts6.get
  refine WL.alloc rfl rfl Ty.zero29 rfl (fun b10 w15 hb11 hE14 hs12 hR13 => ?_)
  refine WL.alloc rfl rfl Ty.zero29 rfl (fun b16 w21 hb17 hE20 hs18 hR19 => ?_)
  refine WL.store_box rfl rfl rfl (hR13.ext hE20) Ty.agg29 rfl rfl (fun w24 hB23 hR22 => ?_)
  have hzhB23 := hB23.size
  refine WL.store_box rfl rfl rfl (hB23.row hR19 (by omega)) Ty.agg29 rfl rfl (fun w27 hB26 hR25 => ?_)
  have hzhB26 := hB26.size
  refine WL.done' ?_ (fun _ _ h => h)
  refine WC.seqk ?_
  refine WC.weaken (r' := [(2, .int .u8 way), (6, .bool false), (16, .bool false), (7, .pointer (some ⟨b10, 0, none⟩)), (8, .pointer (some ⟨b16, 0, none⟩))]) (subReg_cons rfl (subReg_cons rfl (subReg_cons rfl (subReg_cons rfl (subReg_cons rfl (subReg_nil _)))))) ?_
  refine WC.region ?_
  refine WL.call rfl rfl rfl Ty.ent20 (class_ok _ ([97]) (by first | decide | exact Nd.lettersS_len _)) ?_
  rintro _ w30 ⟨l28, rfl, hr28, hE29⟩
  have hzhE29 := hE29.size
  refine ⟨_, rfl, ?_⟩
  have hn28 := hr28.lt
  obtain ⟨sl28, rfl, hts28⟩ := hn28.opn
  obtain ⟨a28, cap28, rfl, hlen28, -⟩ := hts28.get
  refine WL.alloc rfl rfl Ty.zero29 rfl (fun b31 w36 hb32 hE35 hs33 hR34 => ?_)
  refine WL.store_box rfl rfl rfl hR34 Ty.agg29 rfl rfl (fun w39 hB38 hR37 => ?_)
  have hzhB38 := hB38.size
  refine WL.done' ?_ (fun _ _ h => h)
  refine WC.seqk ?_
  refine WC.region ?_
  refine WL.build (l := [.int .u8 1, .int .u64 0, .int .u64 0, .int .u64 0, .int .u64 0, .int .i64 0, .int .i64 0, .slice none 0 0]) rfl rfl Ty.zero29 Ty.st29 ⟨⟨rfl, rfl⟩, (by kernel_rfl)⟩ ?_
  have hn40 : NodeL _ w39 [.int .u8 1, .int .u64 0, .int .u64 0, .int .u64 0, .int .u64 0, .int .i64 0, .int .i64 0, .slice none 0 0] (Nd.mk 1 Nd.zero 0 0 ([])) := NodeL.shut (k := 1) (s := Nd.zero) (mn := 0) (mx := 0) (sl := .slice none 0 0) (ts := []) (NodesV.nil (fun _ => False) _ none 0)
  have hn40 := hn40.lt
  refine WL.alloc rfl rfl Ty.zero29 rfl (fun b41 w46 hb42 hE45 hs43 hR44 => ?_)
  refine WL.store_box rfl rfl rfl hR44 Ty.agg29 rfl rfl (fun w49 hB48 hR47 => ?_)
  have hzhB48 := hB48.size
  refine WL.done' ?_ (fun _ _ h => h)
  refine WC.seqk ?_
  have h50 := ((((hn28.ext hE35).but hB38 (by intro h1; first | omega | ((try dsimp only at h1); (repeat' first | (guard_hyp h1 : _ ∨ _; refine Or.elim h1 (fun h1 => ?_) (fun h1 => ?_)) | (guard_hyp h1 : _ ∧ _; have hx := h1.2; replace h1 := h1.1)) <;> first | contradiction | omega))).ext hE45).but hB48 (by intro h1; first | omega | ((try dsimp only at h1); (repeat' first | (guard_hyp h1 : _ ∨ _; refine Or.elim h1 (fun h1 => ?_) (fun h1 => ?_)) | (guard_hyp h1 : _ ∧ _; have hx := h1.2; replace h1 := h1.1)) <;> first | contradiction | omega)))
  have h51 := ((hn40.ext hE45).but hB48 (by intro h1; first | omega | ((try dsimp only at h1); (repeat' first | (guard_hyp h1 : _ ∨ _; refine Or.elim h1 (fun h1 => ?_) (fun h1 => ?_)) | (guard_hyp h1 : _ ∧ _; have hx := h1.2; replace h1 := h1.1)) <;> first | contradiction | omega)))
  have h52 := (hB48.row ((hB38.row (((hB26.row hR22 (by omega)).ext hE29).ext hE35) (by omega)).ext hE45) (by omega))
  have h53 := ((((((((((hn3.ext hE8).ext hE14).ext hE20).but hB23 (by intro h1; first | omega | ((try dsimp only at h1); (repeat' first | (guard_hyp h1 : _ ∨ _; refine Or.elim h1 (fun h1 => ?_) (fun h1 => ?_)) | (guard_hyp h1 : _ ∧ _; have hx := h1.2; replace h1 := h1.1)) <;> first | contradiction | omega))).but hB26 (by intro h1; first | omega | ((try dsimp only at h1); (repeat' first | (guard_hyp h1 : _ ∨ _; refine Or.elim h1 (fun h1 => ?_) (fun h1 => ?_)) | (guard_hyp h1 : _ ∧ _; have hx := h1.2; replace h1 := h1.1)) <;> first | contradiction | omega))).ext hE29).ext hE35).but hB38 (by intro h1; first | omega | ((try dsimp only at h1); (repeat' first | (guard_hyp h1 : _ ∨ _; refine Or.elim h1 (fun h1 => ?_) (fun h1 => ?_)) | (guard_hyp h1 : _ ∧ _; have hx := h1.2; replace h1 := h1.1)) <;> first | contradiction | omega))).ext hE45).but hB48 (by intro h1; first | omega | ((try dsimp only at h1); (repeat' first | (guard_hyp h1 : _ ∨ _; refine Or.elim h1 (fun h1 => ?_) (fun h1 => ?_)) | (guard_hyp h1 : _ ∧ _; have hx := h1.2; replace h1 := h1.1)) <;> first | contradiction | omega)))
  have h54 := (hB48.row ((hB38.row ((hR25.ext hE29).ext hE35) (by omega)).ext hE45) (by omega))
  have h55 := (((((((((hn6.ext hE14).ext hE20).but hB23 (by intro h1; first | omega | ((try dsimp only at h1); (repeat' first | (guard_hyp h1 : _ ∨ _; refine Or.elim h1 (fun h1 => ?_) (fun h1 => ?_)) | (guard_hyp h1 : _ ∧ _; have hx := h1.2; replace h1 := h1.1)) <;> first | contradiction | omega))).but hB26 (by intro h1; first | omega | ((try dsimp only at h1); (repeat' first | (guard_hyp h1 : _ ∨ _; refine Or.elim h1 (fun h1 => ?_) (fun h1 => ?_)) | (guard_hyp h1 : _ ∧ _; have hx := h1.2; replace h1 := h1.1)) <;> first | contradiction | omega))).ext hE29).ext hE35).but hB38 (by intro h1; first | omega | ((try dsimp only at h1); (repeat' first | (guard_hyp h1 : _ ∨ _; refine Or.elim h1 (fun h1 => ?_) (fun h1 => ?_)) | (guard_hyp h1 : _ ∧ _; have hx := h1.2; replace h1 := h1.1)) <;> first | contradiction | omega))).ext hE45).but hB48 (by intro h1; first | omega | ((try dsimp only at h1); (repeat' first | (guard_hyp h1 : _ ∨ _; refine Or.elim h1 (fun h1 => ?_) (fun h1 => ?_)) | (guard_hyp h1 : _ ∧ _; have hx := h1.2; replace h1 := h1.1)) <;> first | contradiction | omega)))
  have h56 := (hB48.row (hR37.ext hE45) (by omega))
  refine WC.weaken (r' := [(2, .int .u8 way), (6, .bool false), (16, .bool false), (7, .pointer (some ⟨b10, 0, none⟩)), (8, .pointer (some ⟨b16, 0, none⟩)), (9, .pointer (some ⟨b31, 0, none⟩)), (10, .pointer (some ⟨b41, 0, none⟩))]) (subReg_cons rfl (subReg_cons rfl (subReg_cons rfl (subReg_cons rfl (subReg_cons rfl (subReg_cons rfl (subReg_cons rfl (subReg_nil _)))))))) ?_
  refine WC.draw 46 [23, 24, 25, 26, 27, 28, 29, 30, 31, 32, 33, 34, 35, 36, 37, 38, 39, 40, 41, 42, 43, 44, 45, 46, 47, 48, 49, 50, 51, 52, 53, 54, 55, 56, 57, 58, 59, 60, 61, 62, 63, 64, 65, 66, 67, 11] [pc (.agg #[.int .u8 0, .int .u64 0, .int .u64 0, .int .u64 0, .int .u64 0, .int .i64 0, .int .i64 0, .slice none 0 0]), pc (.int .u8 way), pc (.int .u8 (way.tmod 200)), pc (.int .u8 (7 + (way.tmod 200))), pc (.agg #[.int .u8 (7 + (way.tmod 200)), .int .u64 0, .int .u64 0, .int .u64 0, .int .u64 0, .int .i64 0, .int .i64 0, .slice none 0 0]), pc (.agg #[.int .u8 (Nd.classS ([97])).kind, .int .u64 (Nd.classS ([97])).set.a, .int .u64 (Nd.classS ([97])).set.b, .int .u64 (Nd.classS ([97])).set.c, .int .u64 (Nd.classS ([97])).set.d, .int .i64 (Nd.classS ([97])).least, .int .i64 (Nd.classS ([97])).most, .slice a28 (Nd.classS ([97])).subs.length cap28]), pnodes (fun _ => True) ([(Nd.classS ([97]))]), pnode (fun _ => True) (Nd.mk 3 Nd.zero 0 0 ([(Nd.classS ([97]))])), pc (.agg #[.int .u8 B.kind, .int .u64 B.set.a, .int .u64 B.set.b, .int .u64 B.set.c, .int .u64 B.set.d, .int .i64 B.least, .int .i64 B.most, .slice a6 B.subs.length cap6]), pnodes (fun _ => True) ([B]), pnode (fun _ => True) (Nd.mk 4 Nd.zero 0 0 ([B])), pc (.agg #[.int .u8 (Nd.classS ([97])).kind, .int .u64 (Nd.classS ([97])).set.a, .int .u64 (Nd.classS ([97])).set.b, .int .u64 (Nd.classS ([97])).set.c, .int .u64 (Nd.classS ([97])).set.d, .int .i64 (Nd.classS ([97])).least, .int .i64 (Nd.classS ([97])).most, .slice a28 (Nd.classS ([97])).subs.length cap28]), pc (.agg #[.int .u8 1, .int .u64 0, .int .u64 0, .int .u64 0, .int .u64 0, .int .i64 0, .int .i64 0, .slice none 0 0]), pnodes (fun _ => True) ([(Nd.classS ([97])), (Nd.mk 1 Nd.zero 0 0 ([]))]), pnode (fun _ => True) (Nd.mk 3 Nd.zero 0 0 ([(Nd.classS ([97])), (Nd.mk 1 Nd.zero 0 0 ([]))])), pc (.agg #[.int .u8 (Nd.classS ([97])).kind, .int .u64 (Nd.classS ([97])).set.a, .int .u64 (Nd.classS ([97])).set.b, .int .u64 (Nd.classS ([97])).set.c, .int .u64 (Nd.classS ([97])).set.d, .int .i64 (Nd.classS ([97])).least, .int .i64 (Nd.classS ([97])).most, .slice a28 (Nd.classS ([97])).subs.length cap28]), pc (.agg #[.int .u8 (Nd.classS ([97])).kind, .int .u64 (Nd.classS ([97])).set.a, .int .u64 (Nd.classS ([97])).set.b, .int .u64 (Nd.classS ([97])).set.c, .int .u64 (Nd.classS ([97])).set.d, .int .i64 (Nd.classS ([97])).least, .int .i64 (Nd.classS ([97])).most, .slice a28 (Nd.classS ([97])).subs.length cap28]), pc (.agg #[.int .u8 (Nd.classS ([97])).kind, .int .u64 (Nd.classS ([97])).set.a, .int .u64 (Nd.classS ([97])).set.b, .int .u64 (Nd.classS ([97])).set.c, .int .u64 (Nd.classS ([97])).set.d, .int .i64 (Nd.classS ([97])).least, .int .i64 (Nd.classS ([97])).most, .slice a28 (Nd.classS ([97])).subs.length cap28]), pnodes (fun _ => True) ([(Nd.classS ([97])), (Nd.classS ([97]))]), pnode (fun _ => True) (Nd.mk 3 Nd.zero 0 0 ([(Nd.classS ([97])), (Nd.classS ([97]))])), pnodes (fun _ => True) ([(Nd.classS ([97])), (Nd.mk 3 Nd.zero 0 0 ([(Nd.classS ([97])), (Nd.classS ([97]))]))]), pnode (fun _ => True) (Nd.mk 3 Nd.zero 0 0 ([(Nd.classS ([97])), (Nd.mk 3 Nd.zero 0 0 ([(Nd.classS ([97])), (Nd.classS ([97]))]))])), pc (.agg #[.int .u8 (Nd.classS ([97])).kind, .int .u64 (Nd.classS ([97])).set.a, .int .u64 (Nd.classS ([97])).set.b, .int .u64 (Nd.classS ([97])).set.c, .int .u64 (Nd.classS ([97])).set.d, .int .i64 (Nd.classS ([97])).least, .int .i64 (Nd.classS ([97])).most, .slice a28 (Nd.classS ([97])).subs.length cap28]), pc (.agg #[.int .u8 (Nd.classS ([97])).kind, .int .u64 (Nd.classS ([97])).set.a, .int .u64 (Nd.classS ([97])).set.b, .int .u64 (Nd.classS ([97])).set.c, .int .u64 (Nd.classS ([97])).set.d, .int .i64 (Nd.classS ([97])).least, .int .i64 (Nd.classS ([97])).most, .slice a28 (Nd.classS ([97])).subs.length cap28]), pc (.agg #[.int .u8 (Nd.classS ([97])).kind, .int .u64 (Nd.classS ([97])).set.a, .int .u64 (Nd.classS ([97])).set.b, .int .u64 (Nd.classS ([97])).set.c, .int .u64 (Nd.classS ([97])).set.d, .int .i64 (Nd.classS ([97])).least, .int .i64 (Nd.classS ([97])).most, .slice a28 (Nd.classS ([97])).subs.length cap28]), pnodes (fun _ => True) ([(Nd.classS ([97])), (Nd.classS ([97]))]), pnode (fun _ => True) (Nd.mk 4 Nd.zero 0 0 ([(Nd.classS ([97])), (Nd.classS ([97]))])), pnodes (fun _ => True) ([(Nd.classS ([97])), (Nd.mk 4 Nd.zero 0 0 ([(Nd.classS ([97])), (Nd.classS ([97]))]))]), pnode (fun _ => True) (Nd.mk 4 Nd.zero 0 0 ([(Nd.classS ([97])), (Nd.mk 4 Nd.zero 0 0 ([(Nd.classS ([97])), (Nd.classS ([97]))]))])), pc (.agg #[.int .u8 (Nd.classS ([97])).kind, .int .u64 (Nd.classS ([97])).set.a, .int .u64 (Nd.classS ([97])).set.b, .int .u64 (Nd.classS ([97])).set.c, .int .u64 (Nd.classS ([97])).set.d, .int .i64 (Nd.classS ([97])).least, .int .i64 (Nd.classS ([97])).most, .slice a28 (Nd.classS ([97])).subs.length cap28]), pnode (fun _ => True) (Nd.mk 5 Nd.zero 1 1 [(Nd.classS ([97]))]), pc (.agg #[.int .u8 (Nd.classS ([97])).kind, .int .u64 (Nd.classS ([97])).set.a, .int .u64 (Nd.classS ([97])).set.b, .int .u64 (Nd.classS ([97])).set.c, .int .u64 (Nd.classS ([97])).set.d, .int .i64 (Nd.classS ([97])).least, .int .i64 (Nd.classS ([97])).most, .slice a28 (Nd.classS ([97])).subs.length cap28]), pnode (fun _ => True) (Nd.mk 5 Nd.zero 2 1 [(Nd.classS ([97]))]), pc (.agg #[.int .u8 1, .int .u64 0, .int .u64 0, .int .u64 0, .int .u64 0, .int .i64 0, .int .i64 0, .slice none 0 0]), pnode (fun _ => True) (Nd.mk 5 Nd.zero 0 1 [(Nd.mk 1 Nd.zero 0 0 ([]))]), pc (.agg #[.int .u8 2, .int .u64 0, .int .u64 0, .int .u64 0, .int .u64 0, .int .i64 0, .int .i64 0, .slice none 0 0]), pc (.agg #[.int .u8 (Nd.classS ([97])).kind, .int .u64 (Nd.classS ([97])).set.a, .int .u64 (Nd.classS ([97])).set.b, .int .u64 (Nd.classS ([97])).set.c, .int .u64 (Nd.classS ([97])).set.d, .int .i64 (Nd.classS ([97])).least, .int .i64 (Nd.classS ([97])).most, .slice a28 (Nd.classS ([97])).subs.length cap28]), pc (.agg #[.int .u8 (Nd.classS ([97])).kind, .int .u64 (Nd.classS ([97])).set.a, .int .u64 (Nd.classS ([97])).set.b, .int .u64 (Nd.classS ([97])).set.c, .int .u64 (Nd.classS ([97])).set.d, .int .i64 (Nd.classS ([97])).least, .int .i64 (Nd.classS ([97])).most, .slice a28 (Nd.classS ([97])).subs.length cap28]), pnodes (fun _ => True) ([(Nd.classS ([97])), (Nd.classS ([97]))]), pnode (fun _ => True) (Nd.mk 6 Nd.zero 0 0 ([(Nd.classS ([97])), (Nd.classS ([97]))])), pnodes (fun _ => True) ([(Nd.mk 0 Nd.zero 0 0 ([])), (Nd.mk (7 + (way.tmod 200)) Nd.zero 0 0 ([])), (Nd.mk 3 Nd.zero 0 0 ([(Nd.classS ([97]))])), (Nd.mk 4 Nd.zero 0 0 ([B])), (Nd.mk 3 Nd.zero 0 0 ([(Nd.classS ([97])), (Nd.mk 1 Nd.zero 0 0 ([]))])), (Nd.mk 3 Nd.zero 0 0 ([(Nd.classS ([97])), (Nd.mk 3 Nd.zero 0 0 ([(Nd.classS ([97])), (Nd.classS ([97]))]))])), (Nd.mk 4 Nd.zero 0 0 ([(Nd.classS ([97])), (Nd.mk 4 Nd.zero 0 0 ([(Nd.classS ([97])), (Nd.classS ([97]))]))])), (Nd.mk 5 Nd.zero 1 1 [(Nd.classS ([97]))]), (Nd.mk 5 Nd.zero 2 1 [(Nd.classS ([97]))]), (Nd.mk 5 Nd.zero 0 1 [(Nd.mk 1 Nd.zero 0 0 ([]))]), (Nd.mk 2 Nd.zero 0 0 ([])), (Nd.mk 6 Nd.zero 0 0 ([(Nd.classS ([97])), (Nd.classS ([97]))]))]), pc (.int .u8 way), pc (.int .u8 (way.tmod 12)), pelem (fun _ => True) bad, pnode (fun _ => True) bad, palloc 11 [.int .u8 0, .int .u64 0, .int .u64 0, .int .u64 0, .int .u64 0, .int .i64 0, .int .i64 0, .slice none 0 0] 29] (by kernel_rfl) (by kernel_rfl) ⟨KW_pc _, KW_pc _, KW_pc _, KW_pc _, KW_pc _, KW_pc _, KW_pnodes _ _, KW_pnode _ _, KW_pc _, KW_pnodes _ _, KW_pnode _ _, KW_pc _, KW_pc _, KW_pnodes _ _, KW_pnode _ _, KW_pc _, KW_pc _, KW_pc _, KW_pnodes _ _, KW_pnode _ _, KW_pnodes _ _, KW_pnode _ _, KW_pc _, KW_pc _, KW_pc _, KW_pnodes _ _, KW_pnode _ _, KW_pnodes _ _, KW_pnode _ _, KW_pc _, KW_pnode _ _, KW_pc _, KW_pnode _ _, KW_pc _, KW_pnode _ _, KW_pc _, KW_pc _, KW_pc _, KW_pnodes _ _, KW_pnode _ _, KW_pnodes _ _, KW_pc _, KW_pc _, KW_pelem _ _, KW_pnode _ _, KW_palloc _ _ _, trivial⟩ rfl rfl rfl (StepsOn.cons ?_ (StepsOn.cons ?_ (StepsOn.cons ?_ (StepsOn.cons ?_ (StepsOn.cons ?_ (StepsOn.cons ?_ (StepsOn.cons ?_ (StepsOn.cons ?_ (StepsOn.cons ?_ (StepsOn.cons ?_ (StepsOn.cons ?_ (StepsOn.cons ?_ (StepsOn.cons ?_ (StepsOn.cons ?_ (StepsOn.cons ?_ (StepsOn.cons ?_ (StepsOn.cons ?_ (StepsOn.cons ?_ (StepsOn.cons ?_ (StepsOn.cons ?_ (StepsOn.cons ?_ (StepsOn.cons ?_ (StepsOn.cons ?_ (StepsOn.cons ?_ (StepsOn.cons ?_ (StepsOn.cons ?_ (StepsOn.cons ?_ (StepsOn.cons ?_ (StepsOn.cons ?_ (StepsOn.cons ?_ (StepsOn.cons ?_ (StepsOn.cons ?_ (StepsOn.cons ?_ (StepsOn.cons ?_ (StepsOn.cons ?_ (StepsOn.cons ?_ (StepsOn.cons ?_ (StepsOn.cons ?_ (StepsOn.cons ?_ (StepsOn.cons ?_ (StepsOn.cons ?_ (StepsOn.cons ?_ (StepsOn.cons ?_ (StepsOn.cons ?_ (StepsOn.cons ?_ (StepsOn.cons ?_ (StepsOn.nil _))))))))))))))))))))))))))))))))))))))))))))))) ?_
  · intro σ β w1 hE1 hbi hk
    have hz1 := hE1.size
    refine ⟨[], (agree_nil _), ?_⟩
    refine WL.build (l := [.int .u8 0, .int .u64 0, .int .u64 0, .int .u64 0, .int .u64 0, .int .i64 0, .int .i64 0, .slice none 0 0]) rfl rfl Ty.zero29 Ty.st29 ⟨⟨rfl, rfl⟩, (by kernel_rfl)⟩ ?_
    have hn1157 : NodeL _ w1 [.int .u8 0, .int .u64 0, .int .u64 0, .int .u64 0, .int .u64 0, .int .i64 0, .int .i64 0, .slice none 0 0] (Nd.mk 0 Nd.zero 0 0 ([])) := NodeL.shut (k := 0) (s := Nd.zero) (mn := 0) (mx := 0) (sl := .slice none 0 0) (ts := []) (NodesV.nil (fun _ => False) _ none 0)
    have hn1157 := hn1157.lt
    refine WL.nil (fun a_ ha => ?_)
    exact ⟨_, β, ha, (Ext.refl _), BExt.refl _ _, hbi.ext (Ext.refl _), rfl⟩
  · intro σ β w1 hE1 hbi hk
    have hz1 := hE1.size
    refine ⟨[], (agree_nil _), ?_⟩
    refine WL.move rfl rfl rfl ?_
    refine WL.nil (fun a_ ha => ?_)
    exact ⟨_, β, ha, (Ext.refl _), BExt.refl _ _, hbi.ext (Ext.refl _), rfl⟩
  · intro σ β w1 hE1 hbi hk
    have hz1 := hE1.size
    obtain ⟨_, hv1357, rfl⟩ := hk 1 (by kernel_rfl) _ _ rfl rfl
    refine ⟨[(24, .int .u8 way)], (agree_cons (look_right rfl hv1357) (agree_nil _)), ?_⟩
    refine WL.rem (v := (way.tmod 200)) rfl rfl rfl rfl (by decide) rfl ?_
    refine WL.nil (fun a_ ha => ?_)
    exact ⟨_, β, ha, (Ext.refl _), BExt.refl _ _, hbi.ext (Ext.refl _), rfl⟩
  · intro σ β w1 hE1 hbi hk
    have hz1 := hE1.size
    obtain ⟨_, hv1457, rfl⟩ := hk 2 (by kernel_rfl) _ _ rfl rfl
    refine ⟨[(25, .int .u8 (way.tmod 200))], (agree_cons (look_right rfl hv1457) (agree_nil _)), ?_⟩
    refine WL.add (v := 7 + (way.tmod 200)) rfl rfl rfl rfl (IntWalk.u8_in _ (by omega)) ?_
    refine WL.nil (fun a_ ha => ?_)
    exact ⟨_, β, ha, (Ext.refl _), BExt.refl _ _, hbi.ext (Ext.refl _), rfl⟩
  · intro σ β w1 hE1 hbi hk
    have hz1 := hE1.size
    obtain ⟨_, hv1557, rfl⟩ := hk 3 (by kernel_rfl) _ _ rfl rfl
    refine ⟨[(26, .int .u8 (7 + (way.tmod 200)))], (agree_cons (look_right rfl hv1557) (agree_nil _)), ?_⟩
    refine WL.build (l := [.int .u8 (7 + (way.tmod 200)), .int .u64 0, .int .u64 0, .int .u64 0, .int .u64 0, .int .i64 0, .int .i64 0, .slice none 0 0]) rfl rfl Ty.zero29 Ty.st29 ⟨⟨rfl, rfl⟩, (by kernel_rfl)⟩ ?_
    have hn1558 : NodeL _ w1 [.int .u8 (7 + (way.tmod 200)), .int .u64 0, .int .u64 0, .int .u64 0, .int .u64 0, .int .i64 0, .int .i64 0, .slice none 0 0] (Nd.mk (7 + (way.tmod 200)) Nd.zero 0 0 ([])) := NodeL.shut (k := (7 + (way.tmod 200))) (s := Nd.zero) (mn := 0) (mx := 0) (sl := .slice none 0 0) (ts := []) (NodesV.nil (fun _ => False) _ none 0)
    have hn1558 := hn1558.lt
    refine WL.nil (fun a_ ha => ?_)
    exact ⟨_, β, ha, (Ext.refl _), BExt.refl _ _, hbi.ext (Ext.refl _), rfl⟩
  · intro σ β w1 hE1 hbi hk
    have hz1 := hE1.size
    refine ⟨[], (agree_nil _), ?_⟩
    refine WL.load_box rfl rfl rfl (h56.ext hE1) Ty.agg29 ?_
    refine WL.nil (fun a_ ha => ?_)
    exact ⟨_, β, ha, (Ext.refl _), BExt.refl _ _, hbi.ext (Ext.refl _), rfl⟩
  · intro σ β w1 hE1 hbi hk
    have hz1 := hE1.size
    obtain ⟨_, hv1757, rfl⟩ := hk 5 (by kernel_rfl) _ _ rfl rfl
    refine ⟨[(28, .agg #[.int .u8 (Nd.classS ([97])).kind, .int .u64 (Nd.classS ([97])).set.a, .int .u64 (Nd.classS ([97])).set.b, .int .u64 (Nd.classS ([97])).set.c, .int .u64 (Nd.classS ([97])).set.d, .int .i64 (Nd.classS ([97])).least, .int .i64 (Nd.classS ([97])).most, .slice a28 (Nd.classS ([97])).subs.length cap28])], (agree_cons (look_right rfl hv1757) (agree_nil _)), ?_⟩
    refine WL.buildSlice (vs := [.agg #[.int .u8 (Nd.classS ([97])).kind, .int .u64 (Nd.classS ([97])).set.a, .int .u64 (Nd.classS ([97])).set.b, .int .u64 (Nd.classS ([97])).set.c, .int .u64 (Nd.classS ([97])).set.d, .int .i64 (Nd.classS ([97])).least, .int .i64 (Nd.classS ([97])).most, .slice a28 (Nd.classS ([97])).subs.length cap28]]) (cells := [.int .u8 (Nd.classS ([97])).kind, .int .u64 (Nd.classS ([97])).set.a, .int .u64 (Nd.classS ([97])).set.b, .int .u64 (Nd.classS ([97])).set.c, .int .u64 (Nd.classS ([97])).set.d, .int .i64 (Nd.classS ([97])).least, .int .i64 (Nd.classS ([97])).most, .slice a28 (Nd.classS ([97])).subs.length cap28]) rfl rfl Ty.slice27 Ty.zero29 rfl rfl rfl rfl rfl rfl (fun b1758 w1763 hb1759 hE1762 hs1760 hR1761 => ?_)
    have hts1758 := (NodesV.lit (n := 1) (ts := [(Nd.classS ([97]))]) hR1761 (RowsL.cons ((h50.ext hE1).ext hE1762) (RowsL.nil' _)) rfl rfl (by decide)).lt
    refine WL.nil (fun a_ ha => ?_)
    exact ⟨_, β, ha, hE1762, BExt.refl _ _, hbi.ext hE1762, ⟨_, _, rfl, (hts1758.dom (by intro k h1; refine ⟨trivial, ?_, h1.2⟩; replace h1 := h1.1; intro x hxm; have hi := hbi.hi x hxm; have lo := hbi.lo x hxm; (try dsimp only at h1); (repeat' first | (guard_hyp h1 : _ ∨ _; refine Or.elim h1 (fun h1 => ?_) (fun h1 => ?_)) | (guard_hyp h1 : _ ∧ _; have hx := h1.2; replace h1 := h1.1)) <;> first | contradiction | omega | exact hx.1 x hxm))⟩⟩
  · intro σ β w1 hE1 hbi hk
    have hz1 := hE1.size
    obtain ⟨_, hv1857, a1857, cap1857, rfl, hts1857⟩ := hk 6 (by kernel_rfl) _ _ rfl rfl
    have hts1857 := hts1857.lt
    have hlen1857 := hts1857.len
    refine ⟨[(29, .slice a1857 (([(Nd.classS ([97]))]).length) cap1857)], (agree_cons (look_right rfl hv1857) (agree_nil _)), ?_⟩
    refine WL.call rfl rfl rfl Ty.ent21 (cat_ok _ _ _ _ ([(Nd.classS ([97]))]) hts1857) ?_
    rintro _ w1860 ⟨l1858, rfl, hr1858, hE1859⟩
    have hzhE1859 := hE1859.size
    refine ⟨_, rfl, ?_⟩
    have hn1858 := hr1858.lt
    obtain ⟨sl1858, rfl, hts1858⟩ := hn1858.opn
    obtain ⟨a1858, cap1858, rfl, hlen1858, -⟩ := hts1858.get
    refine WL.nil (fun a_ ha => ?_)
    exact ⟨_, β, ha, hE1859, BExt.refl _ _, hbi.ext hE1859, ⟨_, rfl, (hr1858.lt.dom (by intro k h1; refine ⟨trivial, ?_, h1.2⟩; replace h1 := h1.1; intro x hxm; have hi := hbi.hi x hxm; have lo := hbi.lo x hxm; (try dsimp only at h1); (repeat' first | (guard_hyp h1 : _ ∨ _; refine Or.elim h1 (fun h1 => ?_) (fun h1 => ?_)) | (guard_hyp h1 : _ ∧ _; have hx := h1.2; replace h1 := h1.1)) <;> first | contradiction | omega | exact hx.1 x hxm))⟩⟩
  · intro σ β w1 hE1 hbi hk
    have hz1 := hE1.size
    refine ⟨[], (agree_nil _), ?_⟩
    refine WL.load_box rfl rfl rfl (h54.ext hE1) Ty.agg29 ?_
    refine WL.nil (fun a_ ha => ?_)
    exact ⟨_, β, ha, (Ext.refl _), BExt.refl _ _, hbi.ext (Ext.refl _), rfl⟩
  · intro σ β w1 hE1 hbi hk
    have hz1 := hE1.size
    obtain ⟨_, hv2057, rfl⟩ := hk 8 (by kernel_rfl) _ _ rfl rfl
    refine ⟨[(31, .agg #[.int .u8 B.kind, .int .u64 B.set.a, .int .u64 B.set.b, .int .u64 B.set.c, .int .u64 B.set.d, .int .i64 B.least, .int .i64 B.most, .slice a6 B.subs.length cap6])], (agree_cons (look_right rfl hv2057) (agree_nil _)), ?_⟩
    refine WL.buildSlice (vs := [.agg #[.int .u8 B.kind, .int .u64 B.set.a, .int .u64 B.set.b, .int .u64 B.set.c, .int .u64 B.set.d, .int .i64 B.least, .int .i64 B.most, .slice a6 B.subs.length cap6]]) (cells := [.int .u8 B.kind, .int .u64 B.set.a, .int .u64 B.set.b, .int .u64 B.set.c, .int .u64 B.set.d, .int .i64 B.least, .int .i64 B.most, .slice a6 B.subs.length cap6]) rfl rfl Ty.slice27 Ty.zero29 rfl rfl rfl rfl rfl rfl (fun b2058 w2063 hb2059 hE2062 hs2060 hR2061 => ?_)
    have hts2058 := (NodesV.lit (n := 1) (ts := [B]) hR2061 (RowsL.cons ((h55.ext hE1).ext hE2062) (RowsL.nil' _)) rfl rfl (by decide)).lt
    refine WL.nil (fun a_ ha => ?_)
    exact ⟨_, β, ha, hE2062, BExt.refl _ _, hbi.ext hE2062, ⟨_, _, rfl, (hts2058.dom (by intro k h1; refine ⟨trivial, ?_, h1.2⟩; replace h1 := h1.1; intro x hxm; have hi := hbi.hi x hxm; have lo := hbi.lo x hxm; (try dsimp only at h1); (repeat' first | (guard_hyp h1 : _ ∨ _; refine Or.elim h1 (fun h1 => ?_) (fun h1 => ?_)) | (guard_hyp h1 : _ ∧ _; have hx := h1.2; replace h1 := h1.1)) <;> first | contradiction | omega | exact hx.1 x hxm))⟩⟩
  · intro σ β w1 hE1 hbi hk
    have hz1 := hE1.size
    obtain ⟨_, hv2157, a2157, cap2157, rfl, hts2157⟩ := hk 9 (by kernel_rfl) _ _ rfl rfl
    have hts2157 := hts2157.lt
    have hlen2157 := hts2157.len
    refine ⟨[(32, .slice a2157 (([B]).length) cap2157)], (agree_cons (look_right rfl hv2157) (agree_nil _)), ?_⟩
    refine WL.call rfl rfl rfl Ty.ent22 (alt_ok _ _ _ _ ([B]) hts2157) ?_
    rintro _ w2160 ⟨l2158, rfl, hr2158, hE2159⟩
    have hzhE2159 := hE2159.size
    refine ⟨_, rfl, ?_⟩
    have hn2158 := hr2158.lt
    obtain ⟨sl2158, rfl, hts2158⟩ := hn2158.opn
    obtain ⟨a2158, cap2158, rfl, hlen2158, -⟩ := hts2158.get
    refine WL.nil (fun a_ ha => ?_)
    exact ⟨_, β, ha, hE2159, BExt.refl _ _, hbi.ext hE2159, ⟨_, rfl, (hr2158.lt.dom (by intro k h1; refine ⟨trivial, ?_, h1.2⟩; replace h1 := h1.1; intro x hxm; have hi := hbi.hi x hxm; have lo := hbi.lo x hxm; (try dsimp only at h1); (repeat' first | (guard_hyp h1 : _ ∨ _; refine Or.elim h1 (fun h1 => ?_) (fun h1 => ?_)) | (guard_hyp h1 : _ ∧ _; have hx := h1.2; replace h1 := h1.1)) <;> first | contradiction | omega | exact hx.1 x hxm))⟩⟩
  · intro σ β w1 hE1 hbi hk
    have hz1 := hE1.size
    refine ⟨[], (agree_nil _), ?_⟩
    refine WL.load_box rfl rfl rfl (h56.ext hE1) Ty.agg29 ?_
    refine WL.nil (fun a_ ha => ?_)
    exact ⟨_, β, ha, (Ext.refl _), BExt.refl _ _, hbi.ext (Ext.refl _), rfl⟩
  · intro σ β w1 hE1 hbi hk
    have hz1 := hE1.size
    refine ⟨[], (agree_nil _), ?_⟩
    refine WL.load_box rfl rfl rfl (hR47.ext hE1) Ty.agg29 ?_
    refine WL.nil (fun a_ ha => ?_)
    exact ⟨_, β, ha, (Ext.refl _), BExt.refl _ _, hbi.ext (Ext.refl _), rfl⟩
  · intro σ β w1 hE1 hbi hk
    have hz1 := hE1.size
    obtain ⟨_, hv2457, rfl⟩ := hk 11 (by kernel_rfl) _ _ rfl rfl
    obtain ⟨_, hv2458, rfl⟩ := hk 12 (by kernel_rfl) _ _ rfl rfl
    refine ⟨[(34, .agg #[.int .u8 (Nd.classS ([97])).kind, .int .u64 (Nd.classS ([97])).set.a, .int .u64 (Nd.classS ([97])).set.b, .int .u64 (Nd.classS ([97])).set.c, .int .u64 (Nd.classS ([97])).set.d, .int .i64 (Nd.classS ([97])).least, .int .i64 (Nd.classS ([97])).most, .slice a28 (Nd.classS ([97])).subs.length cap28]), (35, .agg #[.int .u8 1, .int .u64 0, .int .u64 0, .int .u64 0, .int .u64 0, .int .i64 0, .int .i64 0, .slice none 0 0])], (agree_cons (look_right rfl hv2457) (agree_cons (look_right rfl hv2458) (agree_nil _))), ?_⟩
    refine WL.buildSlice (vs := [.agg #[.int .u8 (Nd.classS ([97])).kind, .int .u64 (Nd.classS ([97])).set.a, .int .u64 (Nd.classS ([97])).set.b, .int .u64 (Nd.classS ([97])).set.c, .int .u64 (Nd.classS ([97])).set.d, .int .i64 (Nd.classS ([97])).least, .int .i64 (Nd.classS ([97])).most, .slice a28 (Nd.classS ([97])).subs.length cap28], .agg #[.int .u8 1, .int .u64 0, .int .u64 0, .int .u64 0, .int .u64 0, .int .i64 0, .int .i64 0, .slice none 0 0]]) (cells := [.int .u8 (Nd.classS ([97])).kind, .int .u64 (Nd.classS ([97])).set.a, .int .u64 (Nd.classS ([97])).set.b, .int .u64 (Nd.classS ([97])).set.c, .int .u64 (Nd.classS ([97])).set.d, .int .i64 (Nd.classS ([97])).least, .int .i64 (Nd.classS ([97])).most, .slice a28 (Nd.classS ([97])).subs.length cap28, .int .u8 1, .int .u64 0, .int .u64 0, .int .u64 0, .int .u64 0, .int .i64 0, .int .i64 0, .slice none 0 0]) rfl rfl Ty.slice27 Ty.zero29 rfl rfl rfl rfl rfl rfl (fun b2459 w2464 hb2460 hE2463 hs2461 hR2462 => ?_)
    have hts2459 := (NodesV.lit (n := 2) (ts := [(Nd.classS ([97])), (Nd.mk 1 Nd.zero 0 0 ([]))]) hR2462 (RowsL.cons ((h50.ext hE1).ext hE2463) (RowsL.cons ((h51.ext hE1).ext hE2463) (RowsL.nil' _))) rfl rfl (by decide)).lt
    refine WL.nil (fun a_ ha => ?_)
    exact ⟨_, β, ha, hE2463, BExt.refl _ _, hbi.ext hE2463, ⟨_, _, rfl, (hts2459.dom (by intro k h1; refine ⟨trivial, ?_, h1.2⟩; replace h1 := h1.1; intro x hxm; have hi := hbi.hi x hxm; have lo := hbi.lo x hxm; (try dsimp only at h1); (repeat' first | (guard_hyp h1 : _ ∨ _; refine Or.elim h1 (fun h1 => ?_) (fun h1 => ?_)) | (guard_hyp h1 : _ ∧ _; have hx := h1.2; replace h1 := h1.1)) <;> first | contradiction | omega | exact hx.1 x hxm))⟩⟩
  · intro σ β w1 hE1 hbi hk
    have hz1 := hE1.size
    obtain ⟨_, hv2557, a2557, cap2557, rfl, hts2557⟩ := hk 13 (by kernel_rfl) _ _ rfl rfl
    have hts2557 := hts2557.lt
    have hlen2557 := hts2557.len
    refine ⟨[(36, .slice a2557 (([(Nd.classS ([97])), (Nd.mk 1 Nd.zero 0 0 ([]))]).length) cap2557)], (agree_cons (look_right rfl hv2557) (agree_nil _)), ?_⟩
    refine WL.call rfl rfl rfl Ty.ent21 (cat_ok _ _ _ _ ([(Nd.classS ([97])), (Nd.mk 1 Nd.zero 0 0 ([]))]) hts2557) ?_
    rintro _ w2560 ⟨l2558, rfl, hr2558, hE2559⟩
    have hzhE2559 := hE2559.size
    refine ⟨_, rfl, ?_⟩
    have hn2558 := hr2558.lt
    obtain ⟨sl2558, rfl, hts2558⟩ := hn2558.opn
    obtain ⟨a2558, cap2558, rfl, hlen2558, -⟩ := hts2558.get
    refine WL.nil (fun a_ ha => ?_)
    exact ⟨_, β, ha, hE2559, BExt.refl _ _, hbi.ext hE2559, ⟨_, rfl, (hr2558.lt.dom (by intro k h1; refine ⟨trivial, ?_, h1.2⟩; replace h1 := h1.1; intro x hxm; have hi := hbi.hi x hxm; have lo := hbi.lo x hxm; (try dsimp only at h1); (repeat' first | (guard_hyp h1 : _ ∨ _; refine Or.elim h1 (fun h1 => ?_) (fun h1 => ?_)) | (guard_hyp h1 : _ ∧ _; have hx := h1.2; replace h1 := h1.1)) <;> first | contradiction | omega | exact hx.1 x hxm))⟩⟩
  · intro σ β w1 hE1 hbi hk
    have hz1 := hE1.size
    refine ⟨[], (agree_nil _), ?_⟩
    refine WL.load_box rfl rfl rfl (h56.ext hE1) Ty.agg29 ?_
    refine WL.nil (fun a_ ha => ?_)
    exact ⟨_, β, ha, (Ext.refl _), BExt.refl _ _, hbi.ext (Ext.refl _), rfl⟩
  · intro σ β w1 hE1 hbi hk
    have hz1 := hE1.size
    refine ⟨[], (agree_nil _), ?_⟩
    refine WL.load_box rfl rfl rfl (h56.ext hE1) Ty.agg29 ?_
    refine WL.nil (fun a_ ha => ?_)
    exact ⟨_, β, ha, (Ext.refl _), BExt.refl _ _, hbi.ext (Ext.refl _), rfl⟩
  · intro σ β w1 hE1 hbi hk
    have hz1 := hE1.size
    refine ⟨[], (agree_nil _), ?_⟩
    refine WL.load_box rfl rfl rfl (h56.ext hE1) Ty.agg29 ?_
    refine WL.nil (fun a_ ha => ?_)
    exact ⟨_, β, ha, (Ext.refl _), BExt.refl _ _, hbi.ext (Ext.refl _), rfl⟩
  · intro σ β w1 hE1 hbi hk
    have hz1 := hE1.size
    obtain ⟨_, hv2957, rfl⟩ := hk 16 (by kernel_rfl) _ _ rfl rfl
    obtain ⟨_, hv2958, rfl⟩ := hk 17 (by kernel_rfl) _ _ rfl rfl
    refine ⟨[(39, .agg #[.int .u8 (Nd.classS ([97])).kind, .int .u64 (Nd.classS ([97])).set.a, .int .u64 (Nd.classS ([97])).set.b, .int .u64 (Nd.classS ([97])).set.c, .int .u64 (Nd.classS ([97])).set.d, .int .i64 (Nd.classS ([97])).least, .int .i64 (Nd.classS ([97])).most, .slice a28 (Nd.classS ([97])).subs.length cap28]), (40, .agg #[.int .u8 (Nd.classS ([97])).kind, .int .u64 (Nd.classS ([97])).set.a, .int .u64 (Nd.classS ([97])).set.b, .int .u64 (Nd.classS ([97])).set.c, .int .u64 (Nd.classS ([97])).set.d, .int .i64 (Nd.classS ([97])).least, .int .i64 (Nd.classS ([97])).most, .slice a28 (Nd.classS ([97])).subs.length cap28])], (agree_cons (look_right rfl hv2957) (agree_cons (look_right rfl hv2958) (agree_nil _))), ?_⟩
    refine WL.buildSlice (vs := [.agg #[.int .u8 (Nd.classS ([97])).kind, .int .u64 (Nd.classS ([97])).set.a, .int .u64 (Nd.classS ([97])).set.b, .int .u64 (Nd.classS ([97])).set.c, .int .u64 (Nd.classS ([97])).set.d, .int .i64 (Nd.classS ([97])).least, .int .i64 (Nd.classS ([97])).most, .slice a28 (Nd.classS ([97])).subs.length cap28], .agg #[.int .u8 (Nd.classS ([97])).kind, .int .u64 (Nd.classS ([97])).set.a, .int .u64 (Nd.classS ([97])).set.b, .int .u64 (Nd.classS ([97])).set.c, .int .u64 (Nd.classS ([97])).set.d, .int .i64 (Nd.classS ([97])).least, .int .i64 (Nd.classS ([97])).most, .slice a28 (Nd.classS ([97])).subs.length cap28]]) (cells := [.int .u8 (Nd.classS ([97])).kind, .int .u64 (Nd.classS ([97])).set.a, .int .u64 (Nd.classS ([97])).set.b, .int .u64 (Nd.classS ([97])).set.c, .int .u64 (Nd.classS ([97])).set.d, .int .i64 (Nd.classS ([97])).least, .int .i64 (Nd.classS ([97])).most, .slice a28 (Nd.classS ([97])).subs.length cap28, .int .u8 (Nd.classS ([97])).kind, .int .u64 (Nd.classS ([97])).set.a, .int .u64 (Nd.classS ([97])).set.b, .int .u64 (Nd.classS ([97])).set.c, .int .u64 (Nd.classS ([97])).set.d, .int .i64 (Nd.classS ([97])).least, .int .i64 (Nd.classS ([97])).most, .slice a28 (Nd.classS ([97])).subs.length cap28]) rfl rfl Ty.slice27 Ty.zero29 rfl rfl rfl rfl rfl rfl (fun b2959 w2964 hb2960 hE2963 hs2961 hR2962 => ?_)
    have hts2959 := (NodesV.lit (n := 2) (ts := [(Nd.classS ([97])), (Nd.classS ([97]))]) hR2962 (RowsL.cons ((h50.ext hE1).ext hE2963) (RowsL.cons ((h50.ext hE1).ext hE2963) (RowsL.nil' _))) rfl rfl (by decide)).lt
    refine WL.nil (fun a_ ha => ?_)
    exact ⟨_, β, ha, hE2963, BExt.refl _ _, hbi.ext hE2963, ⟨_, _, rfl, (hts2959.dom (by intro k h1; refine ⟨trivial, ?_, h1.2⟩; replace h1 := h1.1; intro x hxm; have hi := hbi.hi x hxm; have lo := hbi.lo x hxm; (try dsimp only at h1); (repeat' first | (guard_hyp h1 : _ ∨ _; refine Or.elim h1 (fun h1 => ?_) (fun h1 => ?_)) | (guard_hyp h1 : _ ∧ _; have hx := h1.2; replace h1 := h1.1)) <;> first | contradiction | omega | exact hx.1 x hxm))⟩⟩
  · intro σ β w1 hE1 hbi hk
    have hz1 := hE1.size
    obtain ⟨_, hv3057, a3057, cap3057, rfl, hts3057⟩ := hk 18 (by kernel_rfl) _ _ rfl rfl
    have hts3057 := hts3057.lt
    have hlen3057 := hts3057.len
    refine ⟨[(41, .slice a3057 (([(Nd.classS ([97])), (Nd.classS ([97]))]).length) cap3057)], (agree_cons (look_right rfl hv3057) (agree_nil _)), ?_⟩
    refine WL.call rfl rfl rfl Ty.ent21 (cat_ok _ _ _ _ ([(Nd.classS ([97])), (Nd.classS ([97]))]) hts3057) ?_
    rintro _ w3060 ⟨l3058, rfl, hr3058, hE3059⟩
    have hzhE3059 := hE3059.size
    refine ⟨_, rfl, ?_⟩
    have hn3058 := hr3058.lt
    obtain ⟨sl3058, rfl, hts3058⟩ := hn3058.opn
    obtain ⟨a3058, cap3058, rfl, hlen3058, -⟩ := hts3058.get
    refine WL.nil (fun a_ ha => ?_)
    exact ⟨_, β, ha, hE3059, BExt.refl _ _, hbi.ext hE3059, ⟨_, rfl, (hr3058.lt.dom (by intro k h1; refine ⟨trivial, ?_, h1.2⟩; replace h1 := h1.1; intro x hxm; have hi := hbi.hi x hxm; have lo := hbi.lo x hxm; (try dsimp only at h1); (repeat' first | (guard_hyp h1 : _ ∨ _; refine Or.elim h1 (fun h1 => ?_) (fun h1 => ?_)) | (guard_hyp h1 : _ ∧ _; have hx := h1.2; replace h1 := h1.1)) <;> first | contradiction | omega | exact hx.1 x hxm))⟩⟩
  · intro σ β w1 hE1 hbi hk
    have hz1 := hE1.size
    obtain ⟨_, hv3157, rfl⟩ := hk 15 (by kernel_rfl) _ _ rfl rfl
    obtain ⟨_, hv3158, l3158, rfl, hn3158⟩ := hk 19 (by kernel_rfl) _ _ rfl rfl
    have hn3158 := hn3158.lt
    obtain ⟨sl3158, rfl, hts3158⟩ := hn3158.opn
    obtain ⟨a3158, cap3158, rfl, hlen3158, -⟩ := hts3158.get
    refine ⟨[(38, .agg #[.int .u8 (Nd.classS ([97])).kind, .int .u64 (Nd.classS ([97])).set.a, .int .u64 (Nd.classS ([97])).set.b, .int .u64 (Nd.classS ([97])).set.c, .int .u64 (Nd.classS ([97])).set.d, .int .i64 (Nd.classS ([97])).least, .int .i64 (Nd.classS ([97])).most, .slice a28 (Nd.classS ([97])).subs.length cap28]), (42, .agg #[.int .u8 (Nd.mk 3 Nd.zero 0 0 ([(Nd.classS ([97])), (Nd.classS ([97]))])).kind, .int .u64 (Nd.mk 3 Nd.zero 0 0 ([(Nd.classS ([97])), (Nd.classS ([97]))])).set.a, .int .u64 (Nd.mk 3 Nd.zero 0 0 ([(Nd.classS ([97])), (Nd.classS ([97]))])).set.b, .int .u64 (Nd.mk 3 Nd.zero 0 0 ([(Nd.classS ([97])), (Nd.classS ([97]))])).set.c, .int .u64 (Nd.mk 3 Nd.zero 0 0 ([(Nd.classS ([97])), (Nd.classS ([97]))])).set.d, .int .i64 (Nd.mk 3 Nd.zero 0 0 ([(Nd.classS ([97])), (Nd.classS ([97]))])).least, .int .i64 (Nd.mk 3 Nd.zero 0 0 ([(Nd.classS ([97])), (Nd.classS ([97]))])).most, .slice a3158 (Nd.mk 3 Nd.zero 0 0 ([(Nd.classS ([97])), (Nd.classS ([97]))])).subs.length cap3158])], (agree_cons (look_right rfl hv3157) (agree_cons (look_right rfl hv3158) (agree_nil _))), ?_⟩
    refine WL.buildSlice (vs := [.agg #[.int .u8 (Nd.classS ([97])).kind, .int .u64 (Nd.classS ([97])).set.a, .int .u64 (Nd.classS ([97])).set.b, .int .u64 (Nd.classS ([97])).set.c, .int .u64 (Nd.classS ([97])).set.d, .int .i64 (Nd.classS ([97])).least, .int .i64 (Nd.classS ([97])).most, .slice a28 (Nd.classS ([97])).subs.length cap28], .agg #[.int .u8 (Nd.mk 3 Nd.zero 0 0 ([(Nd.classS ([97])), (Nd.classS ([97]))])).kind, .int .u64 (Nd.mk 3 Nd.zero 0 0 ([(Nd.classS ([97])), (Nd.classS ([97]))])).set.a, .int .u64 (Nd.mk 3 Nd.zero 0 0 ([(Nd.classS ([97])), (Nd.classS ([97]))])).set.b, .int .u64 (Nd.mk 3 Nd.zero 0 0 ([(Nd.classS ([97])), (Nd.classS ([97]))])).set.c, .int .u64 (Nd.mk 3 Nd.zero 0 0 ([(Nd.classS ([97])), (Nd.classS ([97]))])).set.d, .int .i64 (Nd.mk 3 Nd.zero 0 0 ([(Nd.classS ([97])), (Nd.classS ([97]))])).least, .int .i64 (Nd.mk 3 Nd.zero 0 0 ([(Nd.classS ([97])), (Nd.classS ([97]))])).most, .slice a3158 (Nd.mk 3 Nd.zero 0 0 ([(Nd.classS ([97])), (Nd.classS ([97]))])).subs.length cap3158]]) (cells := [.int .u8 (Nd.classS ([97])).kind, .int .u64 (Nd.classS ([97])).set.a, .int .u64 (Nd.classS ([97])).set.b, .int .u64 (Nd.classS ([97])).set.c, .int .u64 (Nd.classS ([97])).set.d, .int .i64 (Nd.classS ([97])).least, .int .i64 (Nd.classS ([97])).most, .slice a28 (Nd.classS ([97])).subs.length cap28, .int .u8 (Nd.mk 3 Nd.zero 0 0 ([(Nd.classS ([97])), (Nd.classS ([97]))])).kind, .int .u64 (Nd.mk 3 Nd.zero 0 0 ([(Nd.classS ([97])), (Nd.classS ([97]))])).set.a, .int .u64 (Nd.mk 3 Nd.zero 0 0 ([(Nd.classS ([97])), (Nd.classS ([97]))])).set.b, .int .u64 (Nd.mk 3 Nd.zero 0 0 ([(Nd.classS ([97])), (Nd.classS ([97]))])).set.c, .int .u64 (Nd.mk 3 Nd.zero 0 0 ([(Nd.classS ([97])), (Nd.classS ([97]))])).set.d, .int .i64 (Nd.mk 3 Nd.zero 0 0 ([(Nd.classS ([97])), (Nd.classS ([97]))])).least, .int .i64 (Nd.mk 3 Nd.zero 0 0 ([(Nd.classS ([97])), (Nd.classS ([97]))])).most, .slice a3158 (Nd.mk 3 Nd.zero 0 0 ([(Nd.classS ([97])), (Nd.classS ([97]))])).subs.length cap3158]) rfl rfl Ty.slice27 Ty.zero29 rfl rfl rfl rfl rfl rfl (fun b3159 w3164 hb3160 hE3163 hs3161 hR3162 => ?_)
    have hts3159 := (NodesV.lit (n := 2) (ts := [(Nd.classS ([97])), (Nd.mk 3 Nd.zero 0 0 ([(Nd.classS ([97])), (Nd.classS ([97]))]))]) hR3162 (RowsL.cons ((h50.ext hE1).ext hE3163) (RowsL.cons (hn3158.ext hE3163) (RowsL.nil' _))) rfl rfl (by decide)).lt
    refine WL.nil (fun a_ ha => ?_)
    exact ⟨_, β, ha, hE3163, BExt.refl _ _, hbi.ext hE3163, ⟨_, _, rfl, (hts3159.dom (by intro k h1; refine ⟨trivial, ?_, h1.2⟩; replace h1 := h1.1; intro x hxm; have hi := hbi.hi x hxm; have lo := hbi.lo x hxm; (try dsimp only at h1); (repeat' first | (guard_hyp h1 : _ ∨ _; refine Or.elim h1 (fun h1 => ?_) (fun h1 => ?_)) | (guard_hyp h1 : _ ∧ _; have hx := h1.2; replace h1 := h1.1)) <;> first | contradiction | omega | exact hx.1 x hxm))⟩⟩
  · intro σ β w1 hE1 hbi hk
    have hz1 := hE1.size
    obtain ⟨_, hv3257, a3257, cap3257, rfl, hts3257⟩ := hk 20 (by kernel_rfl) _ _ rfl rfl
    have hts3257 := hts3257.lt
    have hlen3257 := hts3257.len
    refine ⟨[(43, .slice a3257 (([(Nd.classS ([97])), (Nd.mk 3 Nd.zero 0 0 ([(Nd.classS ([97])), (Nd.classS ([97]))]))]).length) cap3257)], (agree_cons (look_right rfl hv3257) (agree_nil _)), ?_⟩
    refine WL.call rfl rfl rfl Ty.ent21 (cat_ok _ _ _ _ ([(Nd.classS ([97])), (Nd.mk 3 Nd.zero 0 0 ([(Nd.classS ([97])), (Nd.classS ([97]))]))]) hts3257) ?_
    rintro _ w3260 ⟨l3258, rfl, hr3258, hE3259⟩
    have hzhE3259 := hE3259.size
    refine ⟨_, rfl, ?_⟩
    have hn3258 := hr3258.lt
    obtain ⟨sl3258, rfl, hts3258⟩ := hn3258.opn
    obtain ⟨a3258, cap3258, rfl, hlen3258, -⟩ := hts3258.get
    refine WL.nil (fun a_ ha => ?_)
    exact ⟨_, β, ha, hE3259, BExt.refl _ _, hbi.ext hE3259, ⟨_, rfl, (hr3258.lt.dom (by intro k h1; refine ⟨trivial, ?_, h1.2⟩; replace h1 := h1.1; intro x hxm; have hi := hbi.hi x hxm; have lo := hbi.lo x hxm; (try dsimp only at h1); (repeat' first | (guard_hyp h1 : _ ∨ _; refine Or.elim h1 (fun h1 => ?_) (fun h1 => ?_)) | (guard_hyp h1 : _ ∧ _; have hx := h1.2; replace h1 := h1.1)) <;> first | contradiction | omega | exact hx.1 x hxm))⟩⟩
  · intro σ β w1 hE1 hbi hk
    have hz1 := hE1.size
    refine ⟨[], (agree_nil _), ?_⟩
    refine WL.load_box rfl rfl rfl (h56.ext hE1) Ty.agg29 ?_
    refine WL.nil (fun a_ ha => ?_)
    exact ⟨_, β, ha, (Ext.refl _), BExt.refl _ _, hbi.ext (Ext.refl _), rfl⟩
  · intro σ β w1 hE1 hbi hk
    have hz1 := hE1.size
    refine ⟨[], (agree_nil _), ?_⟩
    refine WL.load_box rfl rfl rfl (h56.ext hE1) Ty.agg29 ?_
    refine WL.nil (fun a_ ha => ?_)
    exact ⟨_, β, ha, (Ext.refl _), BExt.refl _ _, hbi.ext (Ext.refl _), rfl⟩
  · intro σ β w1 hE1 hbi hk
    have hz1 := hE1.size
    refine ⟨[], (agree_nil _), ?_⟩
    refine WL.load_box rfl rfl rfl (h56.ext hE1) Ty.agg29 ?_
    refine WL.nil (fun a_ ha => ?_)
    exact ⟨_, β, ha, (Ext.refl _), BExt.refl _ _, hbi.ext (Ext.refl _), rfl⟩
  · intro σ β w1 hE1 hbi hk
    have hz1 := hE1.size
    obtain ⟨_, hv3657, rfl⟩ := hk 23 (by kernel_rfl) _ _ rfl rfl
    obtain ⟨_, hv3658, rfl⟩ := hk 24 (by kernel_rfl) _ _ rfl rfl
    refine ⟨[(46, .agg #[.int .u8 (Nd.classS ([97])).kind, .int .u64 (Nd.classS ([97])).set.a, .int .u64 (Nd.classS ([97])).set.b, .int .u64 (Nd.classS ([97])).set.c, .int .u64 (Nd.classS ([97])).set.d, .int .i64 (Nd.classS ([97])).least, .int .i64 (Nd.classS ([97])).most, .slice a28 (Nd.classS ([97])).subs.length cap28]), (47, .agg #[.int .u8 (Nd.classS ([97])).kind, .int .u64 (Nd.classS ([97])).set.a, .int .u64 (Nd.classS ([97])).set.b, .int .u64 (Nd.classS ([97])).set.c, .int .u64 (Nd.classS ([97])).set.d, .int .i64 (Nd.classS ([97])).least, .int .i64 (Nd.classS ([97])).most, .slice a28 (Nd.classS ([97])).subs.length cap28])], (agree_cons (look_right rfl hv3657) (agree_cons (look_right rfl hv3658) (agree_nil _))), ?_⟩
    refine WL.buildSlice (vs := [.agg #[.int .u8 (Nd.classS ([97])).kind, .int .u64 (Nd.classS ([97])).set.a, .int .u64 (Nd.classS ([97])).set.b, .int .u64 (Nd.classS ([97])).set.c, .int .u64 (Nd.classS ([97])).set.d, .int .i64 (Nd.classS ([97])).least, .int .i64 (Nd.classS ([97])).most, .slice a28 (Nd.classS ([97])).subs.length cap28], .agg #[.int .u8 (Nd.classS ([97])).kind, .int .u64 (Nd.classS ([97])).set.a, .int .u64 (Nd.classS ([97])).set.b, .int .u64 (Nd.classS ([97])).set.c, .int .u64 (Nd.classS ([97])).set.d, .int .i64 (Nd.classS ([97])).least, .int .i64 (Nd.classS ([97])).most, .slice a28 (Nd.classS ([97])).subs.length cap28]]) (cells := [.int .u8 (Nd.classS ([97])).kind, .int .u64 (Nd.classS ([97])).set.a, .int .u64 (Nd.classS ([97])).set.b, .int .u64 (Nd.classS ([97])).set.c, .int .u64 (Nd.classS ([97])).set.d, .int .i64 (Nd.classS ([97])).least, .int .i64 (Nd.classS ([97])).most, .slice a28 (Nd.classS ([97])).subs.length cap28, .int .u8 (Nd.classS ([97])).kind, .int .u64 (Nd.classS ([97])).set.a, .int .u64 (Nd.classS ([97])).set.b, .int .u64 (Nd.classS ([97])).set.c, .int .u64 (Nd.classS ([97])).set.d, .int .i64 (Nd.classS ([97])).least, .int .i64 (Nd.classS ([97])).most, .slice a28 (Nd.classS ([97])).subs.length cap28]) rfl rfl Ty.slice27 Ty.zero29 rfl rfl rfl rfl rfl rfl (fun b3659 w3664 hb3660 hE3663 hs3661 hR3662 => ?_)
    have hts3659 := (NodesV.lit (n := 2) (ts := [(Nd.classS ([97])), (Nd.classS ([97]))]) hR3662 (RowsL.cons ((h50.ext hE1).ext hE3663) (RowsL.cons ((h50.ext hE1).ext hE3663) (RowsL.nil' _))) rfl rfl (by decide)).lt
    refine WL.nil (fun a_ ha => ?_)
    exact ⟨_, β, ha, hE3663, BExt.refl _ _, hbi.ext hE3663, ⟨_, _, rfl, (hts3659.dom (by intro k h1; refine ⟨trivial, ?_, h1.2⟩; replace h1 := h1.1; intro x hxm; have hi := hbi.hi x hxm; have lo := hbi.lo x hxm; (try dsimp only at h1); (repeat' first | (guard_hyp h1 : _ ∨ _; refine Or.elim h1 (fun h1 => ?_) (fun h1 => ?_)) | (guard_hyp h1 : _ ∧ _; have hx := h1.2; replace h1 := h1.1)) <;> first | contradiction | omega | exact hx.1 x hxm))⟩⟩
  · intro σ β w1 hE1 hbi hk
    have hz1 := hE1.size
    obtain ⟨_, hv3757, a3757, cap3757, rfl, hts3757⟩ := hk 25 (by kernel_rfl) _ _ rfl rfl
    have hts3757 := hts3757.lt
    have hlen3757 := hts3757.len
    refine ⟨[(48, .slice a3757 (([(Nd.classS ([97])), (Nd.classS ([97]))]).length) cap3757)], (agree_cons (look_right rfl hv3757) (agree_nil _)), ?_⟩
    refine WL.call rfl rfl rfl Ty.ent22 (alt_ok _ _ _ _ ([(Nd.classS ([97])), (Nd.classS ([97]))]) hts3757) ?_
    rintro _ w3760 ⟨l3758, rfl, hr3758, hE3759⟩
    have hzhE3759 := hE3759.size
    refine ⟨_, rfl, ?_⟩
    have hn3758 := hr3758.lt
    obtain ⟨sl3758, rfl, hts3758⟩ := hn3758.opn
    obtain ⟨a3758, cap3758, rfl, hlen3758, -⟩ := hts3758.get
    refine WL.nil (fun a_ ha => ?_)
    exact ⟨_, β, ha, hE3759, BExt.refl _ _, hbi.ext hE3759, ⟨_, rfl, (hr3758.lt.dom (by intro k h1; refine ⟨trivial, ?_, h1.2⟩; replace h1 := h1.1; intro x hxm; have hi := hbi.hi x hxm; have lo := hbi.lo x hxm; (try dsimp only at h1); (repeat' first | (guard_hyp h1 : _ ∨ _; refine Or.elim h1 (fun h1 => ?_) (fun h1 => ?_)) | (guard_hyp h1 : _ ∧ _; have hx := h1.2; replace h1 := h1.1)) <;> first | contradiction | omega | exact hx.1 x hxm))⟩⟩
  · intro σ β w1 hE1 hbi hk
    have hz1 := hE1.size
    obtain ⟨_, hv3857, rfl⟩ := hk 22 (by kernel_rfl) _ _ rfl rfl
    obtain ⟨_, hv3858, l3858, rfl, hn3858⟩ := hk 26 (by kernel_rfl) _ _ rfl rfl
    have hn3858 := hn3858.lt
    obtain ⟨sl3858, rfl, hts3858⟩ := hn3858.opn
    obtain ⟨a3858, cap3858, rfl, hlen3858, -⟩ := hts3858.get
    refine ⟨[(45, .agg #[.int .u8 (Nd.classS ([97])).kind, .int .u64 (Nd.classS ([97])).set.a, .int .u64 (Nd.classS ([97])).set.b, .int .u64 (Nd.classS ([97])).set.c, .int .u64 (Nd.classS ([97])).set.d, .int .i64 (Nd.classS ([97])).least, .int .i64 (Nd.classS ([97])).most, .slice a28 (Nd.classS ([97])).subs.length cap28]), (49, .agg #[.int .u8 (Nd.mk 4 Nd.zero 0 0 ([(Nd.classS ([97])), (Nd.classS ([97]))])).kind, .int .u64 (Nd.mk 4 Nd.zero 0 0 ([(Nd.classS ([97])), (Nd.classS ([97]))])).set.a, .int .u64 (Nd.mk 4 Nd.zero 0 0 ([(Nd.classS ([97])), (Nd.classS ([97]))])).set.b, .int .u64 (Nd.mk 4 Nd.zero 0 0 ([(Nd.classS ([97])), (Nd.classS ([97]))])).set.c, .int .u64 (Nd.mk 4 Nd.zero 0 0 ([(Nd.classS ([97])), (Nd.classS ([97]))])).set.d, .int .i64 (Nd.mk 4 Nd.zero 0 0 ([(Nd.classS ([97])), (Nd.classS ([97]))])).least, .int .i64 (Nd.mk 4 Nd.zero 0 0 ([(Nd.classS ([97])), (Nd.classS ([97]))])).most, .slice a3858 (Nd.mk 4 Nd.zero 0 0 ([(Nd.classS ([97])), (Nd.classS ([97]))])).subs.length cap3858])], (agree_cons (look_right rfl hv3857) (agree_cons (look_right rfl hv3858) (agree_nil _))), ?_⟩
    refine WL.buildSlice (vs := [.agg #[.int .u8 (Nd.classS ([97])).kind, .int .u64 (Nd.classS ([97])).set.a, .int .u64 (Nd.classS ([97])).set.b, .int .u64 (Nd.classS ([97])).set.c, .int .u64 (Nd.classS ([97])).set.d, .int .i64 (Nd.classS ([97])).least, .int .i64 (Nd.classS ([97])).most, .slice a28 (Nd.classS ([97])).subs.length cap28], .agg #[.int .u8 (Nd.mk 4 Nd.zero 0 0 ([(Nd.classS ([97])), (Nd.classS ([97]))])).kind, .int .u64 (Nd.mk 4 Nd.zero 0 0 ([(Nd.classS ([97])), (Nd.classS ([97]))])).set.a, .int .u64 (Nd.mk 4 Nd.zero 0 0 ([(Nd.classS ([97])), (Nd.classS ([97]))])).set.b, .int .u64 (Nd.mk 4 Nd.zero 0 0 ([(Nd.classS ([97])), (Nd.classS ([97]))])).set.c, .int .u64 (Nd.mk 4 Nd.zero 0 0 ([(Nd.classS ([97])), (Nd.classS ([97]))])).set.d, .int .i64 (Nd.mk 4 Nd.zero 0 0 ([(Nd.classS ([97])), (Nd.classS ([97]))])).least, .int .i64 (Nd.mk 4 Nd.zero 0 0 ([(Nd.classS ([97])), (Nd.classS ([97]))])).most, .slice a3858 (Nd.mk 4 Nd.zero 0 0 ([(Nd.classS ([97])), (Nd.classS ([97]))])).subs.length cap3858]]) (cells := [.int .u8 (Nd.classS ([97])).kind, .int .u64 (Nd.classS ([97])).set.a, .int .u64 (Nd.classS ([97])).set.b, .int .u64 (Nd.classS ([97])).set.c, .int .u64 (Nd.classS ([97])).set.d, .int .i64 (Nd.classS ([97])).least, .int .i64 (Nd.classS ([97])).most, .slice a28 (Nd.classS ([97])).subs.length cap28, .int .u8 (Nd.mk 4 Nd.zero 0 0 ([(Nd.classS ([97])), (Nd.classS ([97]))])).kind, .int .u64 (Nd.mk 4 Nd.zero 0 0 ([(Nd.classS ([97])), (Nd.classS ([97]))])).set.a, .int .u64 (Nd.mk 4 Nd.zero 0 0 ([(Nd.classS ([97])), (Nd.classS ([97]))])).set.b, .int .u64 (Nd.mk 4 Nd.zero 0 0 ([(Nd.classS ([97])), (Nd.classS ([97]))])).set.c, .int .u64 (Nd.mk 4 Nd.zero 0 0 ([(Nd.classS ([97])), (Nd.classS ([97]))])).set.d, .int .i64 (Nd.mk 4 Nd.zero 0 0 ([(Nd.classS ([97])), (Nd.classS ([97]))])).least, .int .i64 (Nd.mk 4 Nd.zero 0 0 ([(Nd.classS ([97])), (Nd.classS ([97]))])).most, .slice a3858 (Nd.mk 4 Nd.zero 0 0 ([(Nd.classS ([97])), (Nd.classS ([97]))])).subs.length cap3858]) rfl rfl Ty.slice27 Ty.zero29 rfl rfl rfl rfl rfl rfl (fun b3859 w3864 hb3860 hE3863 hs3861 hR3862 => ?_)
    have hts3859 := (NodesV.lit (n := 2) (ts := [(Nd.classS ([97])), (Nd.mk 4 Nd.zero 0 0 ([(Nd.classS ([97])), (Nd.classS ([97]))]))]) hR3862 (RowsL.cons ((h50.ext hE1).ext hE3863) (RowsL.cons (hn3858.ext hE3863) (RowsL.nil' _))) rfl rfl (by decide)).lt
    refine WL.nil (fun a_ ha => ?_)
    exact ⟨_, β, ha, hE3863, BExt.refl _ _, hbi.ext hE3863, ⟨_, _, rfl, (hts3859.dom (by intro k h1; refine ⟨trivial, ?_, h1.2⟩; replace h1 := h1.1; intro x hxm; have hi := hbi.hi x hxm; have lo := hbi.lo x hxm; (try dsimp only at h1); (repeat' first | (guard_hyp h1 : _ ∨ _; refine Or.elim h1 (fun h1 => ?_) (fun h1 => ?_)) | (guard_hyp h1 : _ ∧ _; have hx := h1.2; replace h1 := h1.1)) <;> first | contradiction | omega | exact hx.1 x hxm))⟩⟩
  · intro σ β w1 hE1 hbi hk
    have hz1 := hE1.size
    obtain ⟨_, hv3957, a3957, cap3957, rfl, hts3957⟩ := hk 27 (by kernel_rfl) _ _ rfl rfl
    have hts3957 := hts3957.lt
    have hlen3957 := hts3957.len
    refine ⟨[(50, .slice a3957 (([(Nd.classS ([97])), (Nd.mk 4 Nd.zero 0 0 ([(Nd.classS ([97])), (Nd.classS ([97]))]))]).length) cap3957)], (agree_cons (look_right rfl hv3957) (agree_nil _)), ?_⟩
    refine WL.call rfl rfl rfl Ty.ent22 (alt_ok _ _ _ _ ([(Nd.classS ([97])), (Nd.mk 4 Nd.zero 0 0 ([(Nd.classS ([97])), (Nd.classS ([97]))]))]) hts3957) ?_
    rintro _ w3960 ⟨l3958, rfl, hr3958, hE3959⟩
    have hzhE3959 := hE3959.size
    refine ⟨_, rfl, ?_⟩
    have hn3958 := hr3958.lt
    obtain ⟨sl3958, rfl, hts3958⟩ := hn3958.opn
    obtain ⟨a3958, cap3958, rfl, hlen3958, -⟩ := hts3958.get
    refine WL.nil (fun a_ ha => ?_)
    exact ⟨_, β, ha, hE3959, BExt.refl _ _, hbi.ext hE3959, ⟨_, rfl, (hr3958.lt.dom (by intro k h1; refine ⟨trivial, ?_, h1.2⟩; replace h1 := h1.1; intro x hxm; have hi := hbi.hi x hxm; have lo := hbi.lo x hxm; (try dsimp only at h1); (repeat' first | (guard_hyp h1 : _ ∨ _; refine Or.elim h1 (fun h1 => ?_) (fun h1 => ?_)) | (guard_hyp h1 : _ ∧ _; have hx := h1.2; replace h1 := h1.1)) <;> first | contradiction | omega | exact hx.1 x hxm))⟩⟩
  · intro σ β w1 hE1 hbi hk
    have hz1 := hE1.size
    refine ⟨[], (agree_nil _), ?_⟩
    refine WL.load_box rfl rfl rfl (h56.ext hE1) Ty.agg29 ?_
    refine WL.nil (fun a_ ha => ?_)
    exact ⟨_, β, ha, (Ext.refl _), BExt.refl _ _, hbi.ext (Ext.refl _), rfl⟩
  · intro σ β w1 hE1 hbi hk
    have hz1 := hE1.size
    obtain ⟨_, hv4157, rfl⟩ := hk 29 (by kernel_rfl) _ _ rfl rfl
    refine ⟨[(52, .agg #[.int .u8 (Nd.classS ([97])).kind, .int .u64 (Nd.classS ([97])).set.a, .int .u64 (Nd.classS ([97])).set.b, .int .u64 (Nd.classS ([97])).set.c, .int .u64 (Nd.classS ([97])).set.d, .int .i64 (Nd.classS ([97])).least, .int .i64 (Nd.classS ([97])).most, .slice a28 (Nd.classS ([97])).subs.length cap28])], (agree_cons (look_right rfl hv4157) (agree_nil _)), ?_⟩
    refine WL.call rfl rfl rfl Ty.ent23 (rep_ok _ _ _ (Nd.classS ([97])) 1 1 (h50.ext hE1)) ?_
    rintro _ w4160 ⟨l4158, rfl, hr4158, hE4159⟩
    have hzhE4159 := hE4159.size
    refine ⟨_, rfl, ?_⟩
    have hn4158 := hr4158.lt
    obtain ⟨sl4158, rfl, hts4158⟩ := hn4158.opn
    obtain ⟨a4158, cap4158, rfl, hlen4158, -⟩ := hts4158.get
    refine WL.nil (fun a_ ha => ?_)
    exact ⟨_, β, ha, hE4159, BExt.refl _ _, hbi.ext hE4159, ⟨_, rfl, (hr4158.lt.dom (by intro k h1; refine ⟨trivial, ?_, h1.2⟩; replace h1 := h1.1; intro x hxm; have hi := hbi.hi x hxm; have lo := hbi.lo x hxm; (try dsimp only at h1); (repeat' first | (guard_hyp h1 : _ ∨ _; refine Or.elim h1 (fun h1 => ?_) (fun h1 => ?_)) | (guard_hyp h1 : _ ∧ _; have hx := h1.2; replace h1 := h1.1)) <;> first | contradiction | omega | exact hx.1 x hxm))⟩⟩
  · intro σ β w1 hE1 hbi hk
    have hz1 := hE1.size
    refine ⟨[], (agree_nil _), ?_⟩
    refine WL.load_box rfl rfl rfl (h56.ext hE1) Ty.agg29 ?_
    refine WL.nil (fun a_ ha => ?_)
    exact ⟨_, β, ha, (Ext.refl _), BExt.refl _ _, hbi.ext (Ext.refl _), rfl⟩
  · intro σ β w1 hE1 hbi hk
    have hz1 := hE1.size
    obtain ⟨_, hv4357, rfl⟩ := hk 31 (by kernel_rfl) _ _ rfl rfl
    refine ⟨[(54, .agg #[.int .u8 (Nd.classS ([97])).kind, .int .u64 (Nd.classS ([97])).set.a, .int .u64 (Nd.classS ([97])).set.b, .int .u64 (Nd.classS ([97])).set.c, .int .u64 (Nd.classS ([97])).set.d, .int .i64 (Nd.classS ([97])).least, .int .i64 (Nd.classS ([97])).most, .slice a28 (Nd.classS ([97])).subs.length cap28])], (agree_cons (look_right rfl hv4357) (agree_nil _)), ?_⟩
    refine WL.call rfl rfl rfl Ty.ent23 (rep_ok _ _ _ (Nd.classS ([97])) 2 1 (h50.ext hE1)) ?_
    rintro _ w4360 ⟨l4358, rfl, hr4358, hE4359⟩
    have hzhE4359 := hE4359.size
    refine ⟨_, rfl, ?_⟩
    have hn4358 := hr4358.lt
    obtain ⟨sl4358, rfl, hts4358⟩ := hn4358.opn
    obtain ⟨a4358, cap4358, rfl, hlen4358, -⟩ := hts4358.get
    refine WL.nil (fun a_ ha => ?_)
    exact ⟨_, β, ha, hE4359, BExt.refl _ _, hbi.ext hE4359, ⟨_, rfl, (hr4358.lt.dom (by intro k h1; refine ⟨trivial, ?_, h1.2⟩; replace h1 := h1.1; intro x hxm; have hi := hbi.hi x hxm; have lo := hbi.lo x hxm; (try dsimp only at h1); (repeat' first | (guard_hyp h1 : _ ∨ _; refine Or.elim h1 (fun h1 => ?_) (fun h1 => ?_)) | (guard_hyp h1 : _ ∧ _; have hx := h1.2; replace h1 := h1.1)) <;> first | contradiction | omega | exact hx.1 x hxm))⟩⟩
  · intro σ β w1 hE1 hbi hk
    have hz1 := hE1.size
    refine ⟨[], (agree_nil _), ?_⟩
    refine WL.load_box rfl rfl rfl (hR47.ext hE1) Ty.agg29 ?_
    refine WL.nil (fun a_ ha => ?_)
    exact ⟨_, β, ha, (Ext.refl _), BExt.refl _ _, hbi.ext (Ext.refl _), rfl⟩
  · intro σ β w1 hE1 hbi hk
    have hz1 := hE1.size
    obtain ⟨_, hv4557, rfl⟩ := hk 33 (by kernel_rfl) _ _ rfl rfl
    refine ⟨[(56, .agg #[.int .u8 1, .int .u64 0, .int .u64 0, .int .u64 0, .int .u64 0, .int .i64 0, .int .i64 0, .slice none 0 0])], (agree_cons (look_right rfl hv4557) (agree_nil _)), ?_⟩
    refine WL.call rfl rfl rfl Ty.ent23 (rep_ok _ _ _ (Nd.mk 1 Nd.zero 0 0 ([])) 0 1 (h51.ext hE1)) ?_
    rintro _ w4560 ⟨l4558, rfl, hr4558, hE4559⟩
    have hzhE4559 := hE4559.size
    refine ⟨_, rfl, ?_⟩
    have hn4558 := hr4558.lt
    obtain ⟨sl4558, rfl, hts4558⟩ := hn4558.opn
    obtain ⟨a4558, cap4558, rfl, hlen4558, -⟩ := hts4558.get
    refine WL.nil (fun a_ ha => ?_)
    exact ⟨_, β, ha, hE4559, BExt.refl _ _, hbi.ext hE4559, ⟨_, rfl, (hr4558.lt.dom (by intro k h1; refine ⟨trivial, ?_, h1.2⟩; replace h1 := h1.1; intro x hxm; have hi := hbi.hi x hxm; have lo := hbi.lo x hxm; (try dsimp only at h1); (repeat' first | (guard_hyp h1 : _ ∨ _; refine Or.elim h1 (fun h1 => ?_) (fun h1 => ?_)) | (guard_hyp h1 : _ ∧ _; have hx := h1.2; replace h1 := h1.1)) <;> first | contradiction | omega | exact hx.1 x hxm))⟩⟩
  · intro σ β w1 hE1 hbi hk
    have hz1 := hE1.size
    refine ⟨[], (agree_nil _), ?_⟩
    refine WL.build (l := [.int .u8 2, .int .u64 0, .int .u64 0, .int .u64 0, .int .u64 0, .int .i64 0, .int .i64 0, .slice none 0 0]) rfl rfl Ty.zero29 Ty.st29 ⟨⟨rfl, rfl⟩, (by kernel_rfl)⟩ ?_
    have hn4657 : NodeL _ w1 [.int .u8 2, .int .u64 0, .int .u64 0, .int .u64 0, .int .u64 0, .int .i64 0, .int .i64 0, .slice none 0 0] (Nd.mk 2 Nd.zero 0 0 ([])) := NodeL.shut (k := 2) (s := Nd.zero) (mn := 0) (mx := 0) (sl := .slice none 0 0) (ts := []) (NodesV.nil (fun _ => False) _ none 0)
    have hn4657 := hn4657.lt
    refine WL.nil (fun a_ ha => ?_)
    exact ⟨_, β, ha, (Ext.refl _), BExt.refl _ _, hbi.ext (Ext.refl _), rfl⟩
  · intro σ β w1 hE1 hbi hk
    have hz1 := hE1.size
    refine ⟨[], (agree_nil _), ?_⟩
    refine WL.load_box rfl rfl rfl (h56.ext hE1) Ty.agg29 ?_
    refine WL.nil (fun a_ ha => ?_)
    exact ⟨_, β, ha, (Ext.refl _), BExt.refl _ _, hbi.ext (Ext.refl _), rfl⟩
  · intro σ β w1 hE1 hbi hk
    have hz1 := hE1.size
    refine ⟨[], (agree_nil _), ?_⟩
    refine WL.load_box rfl rfl rfl (h56.ext hE1) Ty.agg29 ?_
    refine WL.nil (fun a_ ha => ?_)
    exact ⟨_, β, ha, (Ext.refl _), BExt.refl _ _, hbi.ext (Ext.refl _), rfl⟩
  · intro σ β w1 hE1 hbi hk
    have hz1 := hE1.size
    obtain ⟨_, hv4957, rfl⟩ := hk 36 (by kernel_rfl) _ _ rfl rfl
    obtain ⟨_, hv4958, rfl⟩ := hk 37 (by kernel_rfl) _ _ rfl rfl
    refine ⟨[(59, .agg #[.int .u8 (Nd.classS ([97])).kind, .int .u64 (Nd.classS ([97])).set.a, .int .u64 (Nd.classS ([97])).set.b, .int .u64 (Nd.classS ([97])).set.c, .int .u64 (Nd.classS ([97])).set.d, .int .i64 (Nd.classS ([97])).least, .int .i64 (Nd.classS ([97])).most, .slice a28 (Nd.classS ([97])).subs.length cap28]), (60, .agg #[.int .u8 (Nd.classS ([97])).kind, .int .u64 (Nd.classS ([97])).set.a, .int .u64 (Nd.classS ([97])).set.b, .int .u64 (Nd.classS ([97])).set.c, .int .u64 (Nd.classS ([97])).set.d, .int .i64 (Nd.classS ([97])).least, .int .i64 (Nd.classS ([97])).most, .slice a28 (Nd.classS ([97])).subs.length cap28])], (agree_cons (look_right rfl hv4957) (agree_cons (look_right rfl hv4958) (agree_nil _))), ?_⟩
    refine WL.buildSlice (vs := [.agg #[.int .u8 (Nd.classS ([97])).kind, .int .u64 (Nd.classS ([97])).set.a, .int .u64 (Nd.classS ([97])).set.b, .int .u64 (Nd.classS ([97])).set.c, .int .u64 (Nd.classS ([97])).set.d, .int .i64 (Nd.classS ([97])).least, .int .i64 (Nd.classS ([97])).most, .slice a28 (Nd.classS ([97])).subs.length cap28], .agg #[.int .u8 (Nd.classS ([97])).kind, .int .u64 (Nd.classS ([97])).set.a, .int .u64 (Nd.classS ([97])).set.b, .int .u64 (Nd.classS ([97])).set.c, .int .u64 (Nd.classS ([97])).set.d, .int .i64 (Nd.classS ([97])).least, .int .i64 (Nd.classS ([97])).most, .slice a28 (Nd.classS ([97])).subs.length cap28]]) (cells := [.int .u8 (Nd.classS ([97])).kind, .int .u64 (Nd.classS ([97])).set.a, .int .u64 (Nd.classS ([97])).set.b, .int .u64 (Nd.classS ([97])).set.c, .int .u64 (Nd.classS ([97])).set.d, .int .i64 (Nd.classS ([97])).least, .int .i64 (Nd.classS ([97])).most, .slice a28 (Nd.classS ([97])).subs.length cap28, .int .u8 (Nd.classS ([97])).kind, .int .u64 (Nd.classS ([97])).set.a, .int .u64 (Nd.classS ([97])).set.b, .int .u64 (Nd.classS ([97])).set.c, .int .u64 (Nd.classS ([97])).set.d, .int .i64 (Nd.classS ([97])).least, .int .i64 (Nd.classS ([97])).most, .slice a28 (Nd.classS ([97])).subs.length cap28]) rfl rfl Ty.slice27 Ty.zero29 rfl rfl rfl rfl rfl rfl (fun b4959 w4964 hb4960 hE4963 hs4961 hR4962 => ?_)
    have hts4959 := (NodesV.lit (n := 2) (ts := [(Nd.classS ([97])), (Nd.classS ([97]))]) hR4962 (RowsL.cons ((h50.ext hE1).ext hE4963) (RowsL.cons ((h50.ext hE1).ext hE4963) (RowsL.nil' _))) rfl rfl (by decide)).lt
    refine WL.nil (fun a_ ha => ?_)
    exact ⟨_, β, ha, hE4963, BExt.refl _ _, hbi.ext hE4963, ⟨_, _, rfl, (hts4959.dom (by intro k h1; refine ⟨trivial, ?_, h1.2⟩; replace h1 := h1.1; intro x hxm; have hi := hbi.hi x hxm; have lo := hbi.lo x hxm; (try dsimp only at h1); (repeat' first | (guard_hyp h1 : _ ∨ _; refine Or.elim h1 (fun h1 => ?_) (fun h1 => ?_)) | (guard_hyp h1 : _ ∧ _; have hx := h1.2; replace h1 := h1.1)) <;> first | contradiction | omega | exact hx.1 x hxm))⟩⟩
  · intro σ β w1 hE1 hbi hk
    have hz1 := hE1.size
    obtain ⟨_, hv5057, a5057, cap5057, rfl, hts5057⟩ := hk 38 (by kernel_rfl) _ _ rfl rfl
    have hts5057 := hts5057.lt
    have hlen5057 := hts5057.len
    refine ⟨[(61, .slice a5057 (([(Nd.classS ([97])), (Nd.classS ([97]))]).length) cap5057)], (agree_cons (look_right rfl hv5057) (agree_nil _)), ?_⟩
    refine WL.build (l := [.int .u8 6, .int .u64 0, .int .u64 0, .int .u64 0, .int .u64 0, .int .i64 0, .int .i64 0, .slice a5057 (([(Nd.classS ([97])), (Nd.classS ([97]))]).length) cap5057]) rfl rfl Ty.zero29 Ty.st29 ⟨⟨rfl, rfl⟩, (by kernel_rfl)⟩ ?_
    have hn5058 : NodeL _ w1 [.int .u8 6, .int .u64 0, .int .u64 0, .int .u64 0, .int .u64 0, .int .i64 0, .int .i64 0, .slice a5057 (([(Nd.classS ([97])), (Nd.classS ([97]))]).length) cap5057] (Nd.mk 6 Nd.zero 0 0 ([(Nd.classS ([97])), (Nd.classS ([97]))])) := NodeL.shut (k := 6) (s := Nd.zero) (mn := 0) (mx := 0) (sl := .slice a5057 (([(Nd.classS ([97])), (Nd.classS ([97]))]).length) cap5057) (ts := [(Nd.classS ([97])), (Nd.classS ([97]))]) hts5057
    have hn5058 := hn5058.lt
    refine WL.nil (fun a_ ha => ?_)
    exact ⟨_, β, ha, (Ext.refl _), BExt.refl _ _, hbi.ext (Ext.refl _), ⟨_, rfl, (hn5058.dom (by intro k h1; refine ⟨trivial, ?_, h1.2⟩; replace h1 := h1.1; intro x hxm; have hi := hbi.hi x hxm; have lo := hbi.lo x hxm; (try dsimp only at h1); (repeat' first | (guard_hyp h1 : _ ∨ _; refine Or.elim h1 (fun h1 => ?_) (fun h1 => ?_)) | (guard_hyp h1 : _ ∧ _; have hx := h1.2; replace h1 := h1.1)) <;> first | contradiction | omega | exact hx.1 x hxm))⟩⟩
  · intro σ β w1 hE1 hbi hk
    have hz1 := hE1.size
    obtain ⟨_, hv5157, rfl⟩ := hk 0 (by kernel_rfl) _ _ rfl rfl
    have hn5158 : NodeL _ w1 [.int .u8 0, .int .u64 0, .int .u64 0, .int .u64 0, .int .u64 0, .int .i64 0, .int .i64 0, .slice none 0 0] (Nd.mk 0 Nd.zero 0 0 ([])) := NodeL.shut (k := 0) (s := Nd.zero) (mn := 0) (mx := 0) (sl := .slice none 0 0) (ts := []) (NodesV.nil (fun _ => False) _ none 0)
    have hn5158 := hn5158.lt
    obtain ⟨_, hv5159, rfl⟩ := hk 4 (by kernel_rfl) _ _ rfl rfl
    have hn5160 : NodeL _ w1 [.int .u8 (7 + (way.tmod 200)), .int .u64 0, .int .u64 0, .int .u64 0, .int .u64 0, .int .i64 0, .int .i64 0, .slice none 0 0] (Nd.mk (7 + (way.tmod 200)) Nd.zero 0 0 ([])) := NodeL.shut (k := (7 + (way.tmod 200))) (s := Nd.zero) (mn := 0) (mx := 0) (sl := .slice none 0 0) (ts := []) (NodesV.nil (fun _ => False) _ none 0)
    have hn5160 := hn5160.lt
    obtain ⟨_, hv5161, l5161, rfl, hn5161⟩ := hk 7 (by kernel_rfl) _ _ rfl rfl
    have hn5161 := hn5161.lt
    obtain ⟨sl5161, rfl, hts5161⟩ := hn5161.opn
    obtain ⟨a5161, cap5161, rfl, hlen5161, -⟩ := hts5161.get
    obtain ⟨_, hv5162, l5162, rfl, hn5162⟩ := hk 10 (by kernel_rfl) _ _ rfl rfl
    have hn5162 := hn5162.lt
    obtain ⟨sl5162, rfl, hts5162⟩ := hn5162.opn
    obtain ⟨a5162, cap5162, rfl, hlen5162, -⟩ := hts5162.get
    obtain ⟨_, hv5163, l5163, rfl, hn5163⟩ := hk 14 (by kernel_rfl) _ _ rfl rfl
    have hn5163 := hn5163.lt
    obtain ⟨sl5163, rfl, hts5163⟩ := hn5163.opn
    obtain ⟨a5163, cap5163, rfl, hlen5163, -⟩ := hts5163.get
    obtain ⟨_, hv5164, l5164, rfl, hn5164⟩ := hk 21 (by kernel_rfl) _ _ rfl rfl
    have hn5164 := hn5164.lt
    obtain ⟨sl5164, rfl, hts5164⟩ := hn5164.opn
    obtain ⟨a5164, cap5164, rfl, hlen5164, -⟩ := hts5164.get
    obtain ⟨_, hv5165, l5165, rfl, hn5165⟩ := hk 28 (by kernel_rfl) _ _ rfl rfl
    have hn5165 := hn5165.lt
    obtain ⟨sl5165, rfl, hts5165⟩ := hn5165.opn
    obtain ⟨a5165, cap5165, rfl, hlen5165, -⟩ := hts5165.get
    obtain ⟨_, hv5166, l5166, rfl, hn5166⟩ := hk 30 (by kernel_rfl) _ _ rfl rfl
    have hn5166 := hn5166.lt
    obtain ⟨sl5166, rfl, hts5166⟩ := hn5166.opn
    obtain ⟨a5166, cap5166, rfl, hlen5166, -⟩ := hts5166.get
    obtain ⟨_, hv5167, l5167, rfl, hn5167⟩ := hk 32 (by kernel_rfl) _ _ rfl rfl
    have hn5167 := hn5167.lt
    obtain ⟨sl5167, rfl, hts5167⟩ := hn5167.opn
    obtain ⟨a5167, cap5167, rfl, hlen5167, -⟩ := hts5167.get
    obtain ⟨_, hv5168, l5168, rfl, hn5168⟩ := hk 34 (by kernel_rfl) _ _ rfl rfl
    have hn5168 := hn5168.lt
    obtain ⟨sl5168, rfl, hts5168⟩ := hn5168.opn
    obtain ⟨a5168, cap5168, rfl, hlen5168, -⟩ := hts5168.get
    obtain ⟨_, hv5169, rfl⟩ := hk 35 (by kernel_rfl) _ _ rfl rfl
    have hn5170 : NodeL _ w1 [.int .u8 2, .int .u64 0, .int .u64 0, .int .u64 0, .int .u64 0, .int .i64 0, .int .i64 0, .slice none 0 0] (Nd.mk 2 Nd.zero 0 0 ([])) := NodeL.shut (k := 2) (s := Nd.zero) (mn := 0) (mx := 0) (sl := .slice none 0 0) (ts := []) (NodesV.nil (fun _ => False) _ none 0)
    have hn5170 := hn5170.lt
    obtain ⟨_, hv5171, l5171, rfl, hn5171⟩ := hk 39 (by kernel_rfl) _ _ rfl rfl
    have hn5171 := hn5171.lt
    obtain ⟨sl5171, rfl, hts5171⟩ := hn5171.opn
    obtain ⟨a5171, cap5171, rfl, hlen5171, -⟩ := hts5171.get
    refine ⟨[(23, .agg #[.int .u8 0, .int .u64 0, .int .u64 0, .int .u64 0, .int .u64 0, .int .i64 0, .int .i64 0, .slice none 0 0]), (27, .agg #[.int .u8 (7 + (way.tmod 200)), .int .u64 0, .int .u64 0, .int .u64 0, .int .u64 0, .int .i64 0, .int .i64 0, .slice none 0 0]), (30, .agg #[.int .u8 (Nd.mk 3 Nd.zero 0 0 ([(Nd.classS ([97]))])).kind, .int .u64 (Nd.mk 3 Nd.zero 0 0 ([(Nd.classS ([97]))])).set.a, .int .u64 (Nd.mk 3 Nd.zero 0 0 ([(Nd.classS ([97]))])).set.b, .int .u64 (Nd.mk 3 Nd.zero 0 0 ([(Nd.classS ([97]))])).set.c, .int .u64 (Nd.mk 3 Nd.zero 0 0 ([(Nd.classS ([97]))])).set.d, .int .i64 (Nd.mk 3 Nd.zero 0 0 ([(Nd.classS ([97]))])).least, .int .i64 (Nd.mk 3 Nd.zero 0 0 ([(Nd.classS ([97]))])).most, .slice a5161 (Nd.mk 3 Nd.zero 0 0 ([(Nd.classS ([97]))])).subs.length cap5161]), (33, .agg #[.int .u8 (Nd.mk 4 Nd.zero 0 0 ([B])).kind, .int .u64 (Nd.mk 4 Nd.zero 0 0 ([B])).set.a, .int .u64 (Nd.mk 4 Nd.zero 0 0 ([B])).set.b, .int .u64 (Nd.mk 4 Nd.zero 0 0 ([B])).set.c, .int .u64 (Nd.mk 4 Nd.zero 0 0 ([B])).set.d, .int .i64 (Nd.mk 4 Nd.zero 0 0 ([B])).least, .int .i64 (Nd.mk 4 Nd.zero 0 0 ([B])).most, .slice a5162 (Nd.mk 4 Nd.zero 0 0 ([B])).subs.length cap5162]), (37, .agg #[.int .u8 (Nd.mk 3 Nd.zero 0 0 ([(Nd.classS ([97])), (Nd.mk 1 Nd.zero 0 0 ([]))])).kind, .int .u64 (Nd.mk 3 Nd.zero 0 0 ([(Nd.classS ([97])), (Nd.mk 1 Nd.zero 0 0 ([]))])).set.a, .int .u64 (Nd.mk 3 Nd.zero 0 0 ([(Nd.classS ([97])), (Nd.mk 1 Nd.zero 0 0 ([]))])).set.b, .int .u64 (Nd.mk 3 Nd.zero 0 0 ([(Nd.classS ([97])), (Nd.mk 1 Nd.zero 0 0 ([]))])).set.c, .int .u64 (Nd.mk 3 Nd.zero 0 0 ([(Nd.classS ([97])), (Nd.mk 1 Nd.zero 0 0 ([]))])).set.d, .int .i64 (Nd.mk 3 Nd.zero 0 0 ([(Nd.classS ([97])), (Nd.mk 1 Nd.zero 0 0 ([]))])).least, .int .i64 (Nd.mk 3 Nd.zero 0 0 ([(Nd.classS ([97])), (Nd.mk 1 Nd.zero 0 0 ([]))])).most, .slice a5163 (Nd.mk 3 Nd.zero 0 0 ([(Nd.classS ([97])), (Nd.mk 1 Nd.zero 0 0 ([]))])).subs.length cap5163]), (44, .agg #[.int .u8 (Nd.mk 3 Nd.zero 0 0 ([(Nd.classS ([97])), (Nd.mk 3 Nd.zero 0 0 ([(Nd.classS ([97])), (Nd.classS ([97]))]))])).kind, .int .u64 (Nd.mk 3 Nd.zero 0 0 ([(Nd.classS ([97])), (Nd.mk 3 Nd.zero 0 0 ([(Nd.classS ([97])), (Nd.classS ([97]))]))])).set.a, .int .u64 (Nd.mk 3 Nd.zero 0 0 ([(Nd.classS ([97])), (Nd.mk 3 Nd.zero 0 0 ([(Nd.classS ([97])), (Nd.classS ([97]))]))])).set.b, .int .u64 (Nd.mk 3 Nd.zero 0 0 ([(Nd.classS ([97])), (Nd.mk 3 Nd.zero 0 0 ([(Nd.classS ([97])), (Nd.classS ([97]))]))])).set.c, .int .u64 (Nd.mk 3 Nd.zero 0 0 ([(Nd.classS ([97])), (Nd.mk 3 Nd.zero 0 0 ([(Nd.classS ([97])), (Nd.classS ([97]))]))])).set.d, .int .i64 (Nd.mk 3 Nd.zero 0 0 ([(Nd.classS ([97])), (Nd.mk 3 Nd.zero 0 0 ([(Nd.classS ([97])), (Nd.classS ([97]))]))])).least, .int .i64 (Nd.mk 3 Nd.zero 0 0 ([(Nd.classS ([97])), (Nd.mk 3 Nd.zero 0 0 ([(Nd.classS ([97])), (Nd.classS ([97]))]))])).most, .slice a5164 (Nd.mk 3 Nd.zero 0 0 ([(Nd.classS ([97])), (Nd.mk 3 Nd.zero 0 0 ([(Nd.classS ([97])), (Nd.classS ([97]))]))])).subs.length cap5164]), (51, .agg #[.int .u8 (Nd.mk 4 Nd.zero 0 0 ([(Nd.classS ([97])), (Nd.mk 4 Nd.zero 0 0 ([(Nd.classS ([97])), (Nd.classS ([97]))]))])).kind, .int .u64 (Nd.mk 4 Nd.zero 0 0 ([(Nd.classS ([97])), (Nd.mk 4 Nd.zero 0 0 ([(Nd.classS ([97])), (Nd.classS ([97]))]))])).set.a, .int .u64 (Nd.mk 4 Nd.zero 0 0 ([(Nd.classS ([97])), (Nd.mk 4 Nd.zero 0 0 ([(Nd.classS ([97])), (Nd.classS ([97]))]))])).set.b, .int .u64 (Nd.mk 4 Nd.zero 0 0 ([(Nd.classS ([97])), (Nd.mk 4 Nd.zero 0 0 ([(Nd.classS ([97])), (Nd.classS ([97]))]))])).set.c, .int .u64 (Nd.mk 4 Nd.zero 0 0 ([(Nd.classS ([97])), (Nd.mk 4 Nd.zero 0 0 ([(Nd.classS ([97])), (Nd.classS ([97]))]))])).set.d, .int .i64 (Nd.mk 4 Nd.zero 0 0 ([(Nd.classS ([97])), (Nd.mk 4 Nd.zero 0 0 ([(Nd.classS ([97])), (Nd.classS ([97]))]))])).least, .int .i64 (Nd.mk 4 Nd.zero 0 0 ([(Nd.classS ([97])), (Nd.mk 4 Nd.zero 0 0 ([(Nd.classS ([97])), (Nd.classS ([97]))]))])).most, .slice a5165 (Nd.mk 4 Nd.zero 0 0 ([(Nd.classS ([97])), (Nd.mk 4 Nd.zero 0 0 ([(Nd.classS ([97])), (Nd.classS ([97]))]))])).subs.length cap5165]), (53, .agg #[.int .u8 (Nd.mk 5 Nd.zero 1 1 [(Nd.classS ([97]))]).kind, .int .u64 (Nd.mk 5 Nd.zero 1 1 [(Nd.classS ([97]))]).set.a, .int .u64 (Nd.mk 5 Nd.zero 1 1 [(Nd.classS ([97]))]).set.b, .int .u64 (Nd.mk 5 Nd.zero 1 1 [(Nd.classS ([97]))]).set.c, .int .u64 (Nd.mk 5 Nd.zero 1 1 [(Nd.classS ([97]))]).set.d, .int .i64 (Nd.mk 5 Nd.zero 1 1 [(Nd.classS ([97]))]).least, .int .i64 (Nd.mk 5 Nd.zero 1 1 [(Nd.classS ([97]))]).most, .slice a5166 (Nd.mk 5 Nd.zero 1 1 [(Nd.classS ([97]))]).subs.length cap5166]), (55, .agg #[.int .u8 (Nd.mk 5 Nd.zero 2 1 [(Nd.classS ([97]))]).kind, .int .u64 (Nd.mk 5 Nd.zero 2 1 [(Nd.classS ([97]))]).set.a, .int .u64 (Nd.mk 5 Nd.zero 2 1 [(Nd.classS ([97]))]).set.b, .int .u64 (Nd.mk 5 Nd.zero 2 1 [(Nd.classS ([97]))]).set.c, .int .u64 (Nd.mk 5 Nd.zero 2 1 [(Nd.classS ([97]))]).set.d, .int .i64 (Nd.mk 5 Nd.zero 2 1 [(Nd.classS ([97]))]).least, .int .i64 (Nd.mk 5 Nd.zero 2 1 [(Nd.classS ([97]))]).most, .slice a5167 (Nd.mk 5 Nd.zero 2 1 [(Nd.classS ([97]))]).subs.length cap5167]), (57, .agg #[.int .u8 (Nd.mk 5 Nd.zero 0 1 [(Nd.mk 1 Nd.zero 0 0 ([]))]).kind, .int .u64 (Nd.mk 5 Nd.zero 0 1 [(Nd.mk 1 Nd.zero 0 0 ([]))]).set.a, .int .u64 (Nd.mk 5 Nd.zero 0 1 [(Nd.mk 1 Nd.zero 0 0 ([]))]).set.b, .int .u64 (Nd.mk 5 Nd.zero 0 1 [(Nd.mk 1 Nd.zero 0 0 ([]))]).set.c, .int .u64 (Nd.mk 5 Nd.zero 0 1 [(Nd.mk 1 Nd.zero 0 0 ([]))]).set.d, .int .i64 (Nd.mk 5 Nd.zero 0 1 [(Nd.mk 1 Nd.zero 0 0 ([]))]).least, .int .i64 (Nd.mk 5 Nd.zero 0 1 [(Nd.mk 1 Nd.zero 0 0 ([]))]).most, .slice a5168 (Nd.mk 5 Nd.zero 0 1 [(Nd.mk 1 Nd.zero 0 0 ([]))]).subs.length cap5168]), (58, .agg #[.int .u8 2, .int .u64 0, .int .u64 0, .int .u64 0, .int .u64 0, .int .i64 0, .int .i64 0, .slice none 0 0]), (62, .agg #[.int .u8 (Nd.mk 6 Nd.zero 0 0 ([(Nd.classS ([97])), (Nd.classS ([97]))])).kind, .int .u64 (Nd.mk 6 Nd.zero 0 0 ([(Nd.classS ([97])), (Nd.classS ([97]))])).set.a, .int .u64 (Nd.mk 6 Nd.zero 0 0 ([(Nd.classS ([97])), (Nd.classS ([97]))])).set.b, .int .u64 (Nd.mk 6 Nd.zero 0 0 ([(Nd.classS ([97])), (Nd.classS ([97]))])).set.c, .int .u64 (Nd.mk 6 Nd.zero 0 0 ([(Nd.classS ([97])), (Nd.classS ([97]))])).set.d, .int .i64 (Nd.mk 6 Nd.zero 0 0 ([(Nd.classS ([97])), (Nd.classS ([97]))])).least, .int .i64 (Nd.mk 6 Nd.zero 0 0 ([(Nd.classS ([97])), (Nd.classS ([97]))])).most, .slice a5171 (Nd.mk 6 Nd.zero 0 0 ([(Nd.classS ([97])), (Nd.classS ([97]))])).subs.length cap5171])], (agree_cons (look_right rfl hv5157) (agree_cons (look_right rfl hv5159) (agree_cons (look_right rfl hv5161) (agree_cons (look_right rfl hv5162) (agree_cons (look_right rfl hv5163) (agree_cons (look_right rfl hv5164) (agree_cons (look_right rfl hv5165) (agree_cons (look_right rfl hv5166) (agree_cons (look_right rfl hv5167) (agree_cons (look_right rfl hv5168) (agree_cons (look_right rfl hv5169) (agree_cons (look_right rfl hv5171) (agree_nil _))))))))))))), ?_⟩
    refine WL.buildSlice (vs := [.agg #[.int .u8 0, .int .u64 0, .int .u64 0, .int .u64 0, .int .u64 0, .int .i64 0, .int .i64 0, .slice none 0 0], .agg #[.int .u8 (7 + (way.tmod 200)), .int .u64 0, .int .u64 0, .int .u64 0, .int .u64 0, .int .i64 0, .int .i64 0, .slice none 0 0], .agg #[.int .u8 (Nd.mk 3 Nd.zero 0 0 ([(Nd.classS ([97]))])).kind, .int .u64 (Nd.mk 3 Nd.zero 0 0 ([(Nd.classS ([97]))])).set.a, .int .u64 (Nd.mk 3 Nd.zero 0 0 ([(Nd.classS ([97]))])).set.b, .int .u64 (Nd.mk 3 Nd.zero 0 0 ([(Nd.classS ([97]))])).set.c, .int .u64 (Nd.mk 3 Nd.zero 0 0 ([(Nd.classS ([97]))])).set.d, .int .i64 (Nd.mk 3 Nd.zero 0 0 ([(Nd.classS ([97]))])).least, .int .i64 (Nd.mk 3 Nd.zero 0 0 ([(Nd.classS ([97]))])).most, .slice a5161 (Nd.mk 3 Nd.zero 0 0 ([(Nd.classS ([97]))])).subs.length cap5161], .agg #[.int .u8 (Nd.mk 4 Nd.zero 0 0 ([B])).kind, .int .u64 (Nd.mk 4 Nd.zero 0 0 ([B])).set.a, .int .u64 (Nd.mk 4 Nd.zero 0 0 ([B])).set.b, .int .u64 (Nd.mk 4 Nd.zero 0 0 ([B])).set.c, .int .u64 (Nd.mk 4 Nd.zero 0 0 ([B])).set.d, .int .i64 (Nd.mk 4 Nd.zero 0 0 ([B])).least, .int .i64 (Nd.mk 4 Nd.zero 0 0 ([B])).most, .slice a5162 (Nd.mk 4 Nd.zero 0 0 ([B])).subs.length cap5162], .agg #[.int .u8 (Nd.mk 3 Nd.zero 0 0 ([(Nd.classS ([97])), (Nd.mk 1 Nd.zero 0 0 ([]))])).kind, .int .u64 (Nd.mk 3 Nd.zero 0 0 ([(Nd.classS ([97])), (Nd.mk 1 Nd.zero 0 0 ([]))])).set.a, .int .u64 (Nd.mk 3 Nd.zero 0 0 ([(Nd.classS ([97])), (Nd.mk 1 Nd.zero 0 0 ([]))])).set.b, .int .u64 (Nd.mk 3 Nd.zero 0 0 ([(Nd.classS ([97])), (Nd.mk 1 Nd.zero 0 0 ([]))])).set.c, .int .u64 (Nd.mk 3 Nd.zero 0 0 ([(Nd.classS ([97])), (Nd.mk 1 Nd.zero 0 0 ([]))])).set.d, .int .i64 (Nd.mk 3 Nd.zero 0 0 ([(Nd.classS ([97])), (Nd.mk 1 Nd.zero 0 0 ([]))])).least, .int .i64 (Nd.mk 3 Nd.zero 0 0 ([(Nd.classS ([97])), (Nd.mk 1 Nd.zero 0 0 ([]))])).most, .slice a5163 (Nd.mk 3 Nd.zero 0 0 ([(Nd.classS ([97])), (Nd.mk 1 Nd.zero 0 0 ([]))])).subs.length cap5163], .agg #[.int .u8 (Nd.mk 3 Nd.zero 0 0 ([(Nd.classS ([97])), (Nd.mk 3 Nd.zero 0 0 ([(Nd.classS ([97])), (Nd.classS ([97]))]))])).kind, .int .u64 (Nd.mk 3 Nd.zero 0 0 ([(Nd.classS ([97])), (Nd.mk 3 Nd.zero 0 0 ([(Nd.classS ([97])), (Nd.classS ([97]))]))])).set.a, .int .u64 (Nd.mk 3 Nd.zero 0 0 ([(Nd.classS ([97])), (Nd.mk 3 Nd.zero 0 0 ([(Nd.classS ([97])), (Nd.classS ([97]))]))])).set.b, .int .u64 (Nd.mk 3 Nd.zero 0 0 ([(Nd.classS ([97])), (Nd.mk 3 Nd.zero 0 0 ([(Nd.classS ([97])), (Nd.classS ([97]))]))])).set.c, .int .u64 (Nd.mk 3 Nd.zero 0 0 ([(Nd.classS ([97])), (Nd.mk 3 Nd.zero 0 0 ([(Nd.classS ([97])), (Nd.classS ([97]))]))])).set.d, .int .i64 (Nd.mk 3 Nd.zero 0 0 ([(Nd.classS ([97])), (Nd.mk 3 Nd.zero 0 0 ([(Nd.classS ([97])), (Nd.classS ([97]))]))])).least, .int .i64 (Nd.mk 3 Nd.zero 0 0 ([(Nd.classS ([97])), (Nd.mk 3 Nd.zero 0 0 ([(Nd.classS ([97])), (Nd.classS ([97]))]))])).most, .slice a5164 (Nd.mk 3 Nd.zero 0 0 ([(Nd.classS ([97])), (Nd.mk 3 Nd.zero 0 0 ([(Nd.classS ([97])), (Nd.classS ([97]))]))])).subs.length cap5164], .agg #[.int .u8 (Nd.mk 4 Nd.zero 0 0 ([(Nd.classS ([97])), (Nd.mk 4 Nd.zero 0 0 ([(Nd.classS ([97])), (Nd.classS ([97]))]))])).kind, .int .u64 (Nd.mk 4 Nd.zero 0 0 ([(Nd.classS ([97])), (Nd.mk 4 Nd.zero 0 0 ([(Nd.classS ([97])), (Nd.classS ([97]))]))])).set.a, .int .u64 (Nd.mk 4 Nd.zero 0 0 ([(Nd.classS ([97])), (Nd.mk 4 Nd.zero 0 0 ([(Nd.classS ([97])), (Nd.classS ([97]))]))])).set.b, .int .u64 (Nd.mk 4 Nd.zero 0 0 ([(Nd.classS ([97])), (Nd.mk 4 Nd.zero 0 0 ([(Nd.classS ([97])), (Nd.classS ([97]))]))])).set.c, .int .u64 (Nd.mk 4 Nd.zero 0 0 ([(Nd.classS ([97])), (Nd.mk 4 Nd.zero 0 0 ([(Nd.classS ([97])), (Nd.classS ([97]))]))])).set.d, .int .i64 (Nd.mk 4 Nd.zero 0 0 ([(Nd.classS ([97])), (Nd.mk 4 Nd.zero 0 0 ([(Nd.classS ([97])), (Nd.classS ([97]))]))])).least, .int .i64 (Nd.mk 4 Nd.zero 0 0 ([(Nd.classS ([97])), (Nd.mk 4 Nd.zero 0 0 ([(Nd.classS ([97])), (Nd.classS ([97]))]))])).most, .slice a5165 (Nd.mk 4 Nd.zero 0 0 ([(Nd.classS ([97])), (Nd.mk 4 Nd.zero 0 0 ([(Nd.classS ([97])), (Nd.classS ([97]))]))])).subs.length cap5165], .agg #[.int .u8 (Nd.mk 5 Nd.zero 1 1 [(Nd.classS ([97]))]).kind, .int .u64 (Nd.mk 5 Nd.zero 1 1 [(Nd.classS ([97]))]).set.a, .int .u64 (Nd.mk 5 Nd.zero 1 1 [(Nd.classS ([97]))]).set.b, .int .u64 (Nd.mk 5 Nd.zero 1 1 [(Nd.classS ([97]))]).set.c, .int .u64 (Nd.mk 5 Nd.zero 1 1 [(Nd.classS ([97]))]).set.d, .int .i64 (Nd.mk 5 Nd.zero 1 1 [(Nd.classS ([97]))]).least, .int .i64 (Nd.mk 5 Nd.zero 1 1 [(Nd.classS ([97]))]).most, .slice a5166 (Nd.mk 5 Nd.zero 1 1 [(Nd.classS ([97]))]).subs.length cap5166], .agg #[.int .u8 (Nd.mk 5 Nd.zero 2 1 [(Nd.classS ([97]))]).kind, .int .u64 (Nd.mk 5 Nd.zero 2 1 [(Nd.classS ([97]))]).set.a, .int .u64 (Nd.mk 5 Nd.zero 2 1 [(Nd.classS ([97]))]).set.b, .int .u64 (Nd.mk 5 Nd.zero 2 1 [(Nd.classS ([97]))]).set.c, .int .u64 (Nd.mk 5 Nd.zero 2 1 [(Nd.classS ([97]))]).set.d, .int .i64 (Nd.mk 5 Nd.zero 2 1 [(Nd.classS ([97]))]).least, .int .i64 (Nd.mk 5 Nd.zero 2 1 [(Nd.classS ([97]))]).most, .slice a5167 (Nd.mk 5 Nd.zero 2 1 [(Nd.classS ([97]))]).subs.length cap5167], .agg #[.int .u8 (Nd.mk 5 Nd.zero 0 1 [(Nd.mk 1 Nd.zero 0 0 ([]))]).kind, .int .u64 (Nd.mk 5 Nd.zero 0 1 [(Nd.mk 1 Nd.zero 0 0 ([]))]).set.a, .int .u64 (Nd.mk 5 Nd.zero 0 1 [(Nd.mk 1 Nd.zero 0 0 ([]))]).set.b, .int .u64 (Nd.mk 5 Nd.zero 0 1 [(Nd.mk 1 Nd.zero 0 0 ([]))]).set.c, .int .u64 (Nd.mk 5 Nd.zero 0 1 [(Nd.mk 1 Nd.zero 0 0 ([]))]).set.d, .int .i64 (Nd.mk 5 Nd.zero 0 1 [(Nd.mk 1 Nd.zero 0 0 ([]))]).least, .int .i64 (Nd.mk 5 Nd.zero 0 1 [(Nd.mk 1 Nd.zero 0 0 ([]))]).most, .slice a5168 (Nd.mk 5 Nd.zero 0 1 [(Nd.mk 1 Nd.zero 0 0 ([]))]).subs.length cap5168], .agg #[.int .u8 2, .int .u64 0, .int .u64 0, .int .u64 0, .int .u64 0, .int .i64 0, .int .i64 0, .slice none 0 0], .agg #[.int .u8 (Nd.mk 6 Nd.zero 0 0 ([(Nd.classS ([97])), (Nd.classS ([97]))])).kind, .int .u64 (Nd.mk 6 Nd.zero 0 0 ([(Nd.classS ([97])), (Nd.classS ([97]))])).set.a, .int .u64 (Nd.mk 6 Nd.zero 0 0 ([(Nd.classS ([97])), (Nd.classS ([97]))])).set.b, .int .u64 (Nd.mk 6 Nd.zero 0 0 ([(Nd.classS ([97])), (Nd.classS ([97]))])).set.c, .int .u64 (Nd.mk 6 Nd.zero 0 0 ([(Nd.classS ([97])), (Nd.classS ([97]))])).set.d, .int .i64 (Nd.mk 6 Nd.zero 0 0 ([(Nd.classS ([97])), (Nd.classS ([97]))])).least, .int .i64 (Nd.mk 6 Nd.zero 0 0 ([(Nd.classS ([97])), (Nd.classS ([97]))])).most, .slice a5171 (Nd.mk 6 Nd.zero 0 0 ([(Nd.classS ([97])), (Nd.classS ([97]))])).subs.length cap5171]]) (cells := [.int .u8 0, .int .u64 0, .int .u64 0, .int .u64 0, .int .u64 0, .int .i64 0, .int .i64 0, .slice none 0 0, .int .u8 (7 + (way.tmod 200)), .int .u64 0, .int .u64 0, .int .u64 0, .int .u64 0, .int .i64 0, .int .i64 0, .slice none 0 0, .int .u8 (Nd.mk 3 Nd.zero 0 0 ([(Nd.classS ([97]))])).kind, .int .u64 (Nd.mk 3 Nd.zero 0 0 ([(Nd.classS ([97]))])).set.a, .int .u64 (Nd.mk 3 Nd.zero 0 0 ([(Nd.classS ([97]))])).set.b, .int .u64 (Nd.mk 3 Nd.zero 0 0 ([(Nd.classS ([97]))])).set.c, .int .u64 (Nd.mk 3 Nd.zero 0 0 ([(Nd.classS ([97]))])).set.d, .int .i64 (Nd.mk 3 Nd.zero 0 0 ([(Nd.classS ([97]))])).least, .int .i64 (Nd.mk 3 Nd.zero 0 0 ([(Nd.classS ([97]))])).most, .slice a5161 (Nd.mk 3 Nd.zero 0 0 ([(Nd.classS ([97]))])).subs.length cap5161, .int .u8 (Nd.mk 4 Nd.zero 0 0 ([B])).kind, .int .u64 (Nd.mk 4 Nd.zero 0 0 ([B])).set.a, .int .u64 (Nd.mk 4 Nd.zero 0 0 ([B])).set.b, .int .u64 (Nd.mk 4 Nd.zero 0 0 ([B])).set.c, .int .u64 (Nd.mk 4 Nd.zero 0 0 ([B])).set.d, .int .i64 (Nd.mk 4 Nd.zero 0 0 ([B])).least, .int .i64 (Nd.mk 4 Nd.zero 0 0 ([B])).most, .slice a5162 (Nd.mk 4 Nd.zero 0 0 ([B])).subs.length cap5162, .int .u8 (Nd.mk 3 Nd.zero 0 0 ([(Nd.classS ([97])), (Nd.mk 1 Nd.zero 0 0 ([]))])).kind, .int .u64 (Nd.mk 3 Nd.zero 0 0 ([(Nd.classS ([97])), (Nd.mk 1 Nd.zero 0 0 ([]))])).set.a, .int .u64 (Nd.mk 3 Nd.zero 0 0 ([(Nd.classS ([97])), (Nd.mk 1 Nd.zero 0 0 ([]))])).set.b, .int .u64 (Nd.mk 3 Nd.zero 0 0 ([(Nd.classS ([97])), (Nd.mk 1 Nd.zero 0 0 ([]))])).set.c, .int .u64 (Nd.mk 3 Nd.zero 0 0 ([(Nd.classS ([97])), (Nd.mk 1 Nd.zero 0 0 ([]))])).set.d, .int .i64 (Nd.mk 3 Nd.zero 0 0 ([(Nd.classS ([97])), (Nd.mk 1 Nd.zero 0 0 ([]))])).least, .int .i64 (Nd.mk 3 Nd.zero 0 0 ([(Nd.classS ([97])), (Nd.mk 1 Nd.zero 0 0 ([]))])).most, .slice a5163 (Nd.mk 3 Nd.zero 0 0 ([(Nd.classS ([97])), (Nd.mk 1 Nd.zero 0 0 ([]))])).subs.length cap5163, .int .u8 (Nd.mk 3 Nd.zero 0 0 ([(Nd.classS ([97])), (Nd.mk 3 Nd.zero 0 0 ([(Nd.classS ([97])), (Nd.classS ([97]))]))])).kind, .int .u64 (Nd.mk 3 Nd.zero 0 0 ([(Nd.classS ([97])), (Nd.mk 3 Nd.zero 0 0 ([(Nd.classS ([97])), (Nd.classS ([97]))]))])).set.a, .int .u64 (Nd.mk 3 Nd.zero 0 0 ([(Nd.classS ([97])), (Nd.mk 3 Nd.zero 0 0 ([(Nd.classS ([97])), (Nd.classS ([97]))]))])).set.b, .int .u64 (Nd.mk 3 Nd.zero 0 0 ([(Nd.classS ([97])), (Nd.mk 3 Nd.zero 0 0 ([(Nd.classS ([97])), (Nd.classS ([97]))]))])).set.c, .int .u64 (Nd.mk 3 Nd.zero 0 0 ([(Nd.classS ([97])), (Nd.mk 3 Nd.zero 0 0 ([(Nd.classS ([97])), (Nd.classS ([97]))]))])).set.d, .int .i64 (Nd.mk 3 Nd.zero 0 0 ([(Nd.classS ([97])), (Nd.mk 3 Nd.zero 0 0 ([(Nd.classS ([97])), (Nd.classS ([97]))]))])).least, .int .i64 (Nd.mk 3 Nd.zero 0 0 ([(Nd.classS ([97])), (Nd.mk 3 Nd.zero 0 0 ([(Nd.classS ([97])), (Nd.classS ([97]))]))])).most, .slice a5164 (Nd.mk 3 Nd.zero 0 0 ([(Nd.classS ([97])), (Nd.mk 3 Nd.zero 0 0 ([(Nd.classS ([97])), (Nd.classS ([97]))]))])).subs.length cap5164, .int .u8 (Nd.mk 4 Nd.zero 0 0 ([(Nd.classS ([97])), (Nd.mk 4 Nd.zero 0 0 ([(Nd.classS ([97])), (Nd.classS ([97]))]))])).kind, .int .u64 (Nd.mk 4 Nd.zero 0 0 ([(Nd.classS ([97])), (Nd.mk 4 Nd.zero 0 0 ([(Nd.classS ([97])), (Nd.classS ([97]))]))])).set.a, .int .u64 (Nd.mk 4 Nd.zero 0 0 ([(Nd.classS ([97])), (Nd.mk 4 Nd.zero 0 0 ([(Nd.classS ([97])), (Nd.classS ([97]))]))])).set.b, .int .u64 (Nd.mk 4 Nd.zero 0 0 ([(Nd.classS ([97])), (Nd.mk 4 Nd.zero 0 0 ([(Nd.classS ([97])), (Nd.classS ([97]))]))])).set.c, .int .u64 (Nd.mk 4 Nd.zero 0 0 ([(Nd.classS ([97])), (Nd.mk 4 Nd.zero 0 0 ([(Nd.classS ([97])), (Nd.classS ([97]))]))])).set.d, .int .i64 (Nd.mk 4 Nd.zero 0 0 ([(Nd.classS ([97])), (Nd.mk 4 Nd.zero 0 0 ([(Nd.classS ([97])), (Nd.classS ([97]))]))])).least, .int .i64 (Nd.mk 4 Nd.zero 0 0 ([(Nd.classS ([97])), (Nd.mk 4 Nd.zero 0 0 ([(Nd.classS ([97])), (Nd.classS ([97]))]))])).most, .slice a5165 (Nd.mk 4 Nd.zero 0 0 ([(Nd.classS ([97])), (Nd.mk 4 Nd.zero 0 0 ([(Nd.classS ([97])), (Nd.classS ([97]))]))])).subs.length cap5165, .int .u8 (Nd.mk 5 Nd.zero 1 1 [(Nd.classS ([97]))]).kind, .int .u64 (Nd.mk 5 Nd.zero 1 1 [(Nd.classS ([97]))]).set.a, .int .u64 (Nd.mk 5 Nd.zero 1 1 [(Nd.classS ([97]))]).set.b, .int .u64 (Nd.mk 5 Nd.zero 1 1 [(Nd.classS ([97]))]).set.c, .int .u64 (Nd.mk 5 Nd.zero 1 1 [(Nd.classS ([97]))]).set.d, .int .i64 (Nd.mk 5 Nd.zero 1 1 [(Nd.classS ([97]))]).least, .int .i64 (Nd.mk 5 Nd.zero 1 1 [(Nd.classS ([97]))]).most, .slice a5166 (Nd.mk 5 Nd.zero 1 1 [(Nd.classS ([97]))]).subs.length cap5166, .int .u8 (Nd.mk 5 Nd.zero 2 1 [(Nd.classS ([97]))]).kind, .int .u64 (Nd.mk 5 Nd.zero 2 1 [(Nd.classS ([97]))]).set.a, .int .u64 (Nd.mk 5 Nd.zero 2 1 [(Nd.classS ([97]))]).set.b, .int .u64 (Nd.mk 5 Nd.zero 2 1 [(Nd.classS ([97]))]).set.c, .int .u64 (Nd.mk 5 Nd.zero 2 1 [(Nd.classS ([97]))]).set.d, .int .i64 (Nd.mk 5 Nd.zero 2 1 [(Nd.classS ([97]))]).least, .int .i64 (Nd.mk 5 Nd.zero 2 1 [(Nd.classS ([97]))]).most, .slice a5167 (Nd.mk 5 Nd.zero 2 1 [(Nd.classS ([97]))]).subs.length cap5167, .int .u8 (Nd.mk 5 Nd.zero 0 1 [(Nd.mk 1 Nd.zero 0 0 ([]))]).kind, .int .u64 (Nd.mk 5 Nd.zero 0 1 [(Nd.mk 1 Nd.zero 0 0 ([]))]).set.a, .int .u64 (Nd.mk 5 Nd.zero 0 1 [(Nd.mk 1 Nd.zero 0 0 ([]))]).set.b, .int .u64 (Nd.mk 5 Nd.zero 0 1 [(Nd.mk 1 Nd.zero 0 0 ([]))]).set.c, .int .u64 (Nd.mk 5 Nd.zero 0 1 [(Nd.mk 1 Nd.zero 0 0 ([]))]).set.d, .int .i64 (Nd.mk 5 Nd.zero 0 1 [(Nd.mk 1 Nd.zero 0 0 ([]))]).least, .int .i64 (Nd.mk 5 Nd.zero 0 1 [(Nd.mk 1 Nd.zero 0 0 ([]))]).most, .slice a5168 (Nd.mk 5 Nd.zero 0 1 [(Nd.mk 1 Nd.zero 0 0 ([]))]).subs.length cap5168, .int .u8 2, .int .u64 0, .int .u64 0, .int .u64 0, .int .u64 0, .int .i64 0, .int .i64 0, .slice none 0 0, .int .u8 (Nd.mk 6 Nd.zero 0 0 ([(Nd.classS ([97])), (Nd.classS ([97]))])).kind, .int .u64 (Nd.mk 6 Nd.zero 0 0 ([(Nd.classS ([97])), (Nd.classS ([97]))])).set.a, .int .u64 (Nd.mk 6 Nd.zero 0 0 ([(Nd.classS ([97])), (Nd.classS ([97]))])).set.b, .int .u64 (Nd.mk 6 Nd.zero 0 0 ([(Nd.classS ([97])), (Nd.classS ([97]))])).set.c, .int .u64 (Nd.mk 6 Nd.zero 0 0 ([(Nd.classS ([97])), (Nd.classS ([97]))])).set.d, .int .i64 (Nd.mk 6 Nd.zero 0 0 ([(Nd.classS ([97])), (Nd.classS ([97]))])).least, .int .i64 (Nd.mk 6 Nd.zero 0 0 ([(Nd.classS ([97])), (Nd.classS ([97]))])).most, .slice a5171 (Nd.mk 6 Nd.zero 0 0 ([(Nd.classS ([97])), (Nd.classS ([97]))])).subs.length cap5171]) rfl rfl Ty.slice27 Ty.zero29 rfl rfl rfl rfl rfl rfl (fun b5172 w5177 hb5173 hE5176 hs5174 hR5175 => ?_)
    have hts5172 := (NodesV.lit (n := 12) (ts := [(Nd.mk 0 Nd.zero 0 0 ([])), (Nd.mk (7 + (way.tmod 200)) Nd.zero 0 0 ([])), (Nd.mk 3 Nd.zero 0 0 ([(Nd.classS ([97]))])), (Nd.mk 4 Nd.zero 0 0 ([B])), (Nd.mk 3 Nd.zero 0 0 ([(Nd.classS ([97])), (Nd.mk 1 Nd.zero 0 0 ([]))])), (Nd.mk 3 Nd.zero 0 0 ([(Nd.classS ([97])), (Nd.mk 3 Nd.zero 0 0 ([(Nd.classS ([97])), (Nd.classS ([97]))]))])), (Nd.mk 4 Nd.zero 0 0 ([(Nd.classS ([97])), (Nd.mk 4 Nd.zero 0 0 ([(Nd.classS ([97])), (Nd.classS ([97]))]))])), (Nd.mk 5 Nd.zero 1 1 [(Nd.classS ([97]))]), (Nd.mk 5 Nd.zero 2 1 [(Nd.classS ([97]))]), (Nd.mk 5 Nd.zero 0 1 [(Nd.mk 1 Nd.zero 0 0 ([]))]), (Nd.mk 2 Nd.zero 0 0 ([])), (Nd.mk 6 Nd.zero 0 0 ([(Nd.classS ([97])), (Nd.classS ([97]))]))]) hR5175 (RowsL.cons (hn5158.ext hE5176) (RowsL.cons (hn5160.ext hE5176) (RowsL.cons (hn5161.ext hE5176) (RowsL.cons (hn5162.ext hE5176) (RowsL.cons (hn5163.ext hE5176) (RowsL.cons (hn5164.ext hE5176) (RowsL.cons (hn5165.ext hE5176) (RowsL.cons (hn5166.ext hE5176) (RowsL.cons (hn5167.ext hE5176) (RowsL.cons (hn5168.ext hE5176) (RowsL.cons (hn5170.ext hE5176) (RowsL.cons (hn5171.ext hE5176) (RowsL.nil' _))))))))))))) rfl rfl (by decide)).lt
    refine WL.nil (fun a_ ha => ?_)
    exact ⟨_, β, ha, hE5176, BExt.refl _ _, hbi.ext hE5176, ⟨_, _, rfl, (hts5172.dom (by intro k h1; refine ⟨trivial, ?_, h1.2⟩; replace h1 := h1.1; intro x hxm; have hi := hbi.hi x hxm; have lo := hbi.lo x hxm; (try dsimp only at h1); (repeat' first | (guard_hyp h1 : _ ∨ _; refine Or.elim h1 (fun h1 => ?_) (fun h1 => ?_)) | (guard_hyp h1 : _ ∧ _; have hx := h1.2; replace h1 := h1.1)) <;> first | contradiction | omega | exact hx.1 x hxm))⟩⟩
  · intro σ β w1 hE1 hbi hk
    have hz1 := hE1.size
    refine ⟨[], (agree_nil _), ?_⟩
    refine WL.move rfl rfl rfl ?_
    refine WL.nil (fun a_ ha => ?_)
    exact ⟨_, β, ha, (Ext.refl _), BExt.refl _ _, hbi.ext (Ext.refl _), rfl⟩
  · intro σ β w1 hE1 hbi hk
    have hz1 := hE1.size
    obtain ⟨_, hv5357, rfl⟩ := hk 41 (by kernel_rfl) _ _ rfl rfl
    refine ⟨[(64, .int .u8 way)], (agree_cons (look_right rfl hv5357) (agree_nil _)), ?_⟩
    refine WL.rem (v := (way.tmod 12)) rfl rfl rfl rfl (by decide) rfl ?_
    refine WL.nil (fun a_ ha => ?_)
    exact ⟨_, β, ha, (Ext.refl _), BExt.refl _ _, hbi.ext (Ext.refl _), rfl⟩
  · intro σ β w1 hE1 hbi hk
    have hz1 := hE1.size
    obtain ⟨_, hv5457, a5457, cap5457, rfl, hts5457⟩ := hk 40 (by kernel_rfl) _ _ rfl rfl
    have hts5457 := hts5457.lt
    have hlen5457 := hts5457.len
    obtain ⟨_, hv5458, rfl⟩ := hk 42 (by kernel_rfl) _ _ rfl rfl
    refine ⟨[(63, .slice a5457 (([(Nd.mk 0 Nd.zero 0 0 ([])), (Nd.mk (7 + (way.tmod 200)) Nd.zero 0 0 ([])), (Nd.mk 3 Nd.zero 0 0 ([(Nd.classS ([97]))])), (Nd.mk 4 Nd.zero 0 0 ([B])), (Nd.mk 3 Nd.zero 0 0 ([(Nd.classS ([97])), (Nd.mk 1 Nd.zero 0 0 ([]))])), (Nd.mk 3 Nd.zero 0 0 ([(Nd.classS ([97])), (Nd.mk 3 Nd.zero 0 0 ([(Nd.classS ([97])), (Nd.classS ([97]))]))])), (Nd.mk 4 Nd.zero 0 0 ([(Nd.classS ([97])), (Nd.mk 4 Nd.zero 0 0 ([(Nd.classS ([97])), (Nd.classS ([97]))]))])), (Nd.mk 5 Nd.zero 1 1 [(Nd.classS ([97]))]), (Nd.mk 5 Nd.zero 2 1 [(Nd.classS ([97]))]), (Nd.mk 5 Nd.zero 0 1 [(Nd.mk 1 Nd.zero 0 0 ([]))]), (Nd.mk 2 Nd.zero 0 0 ([])), (Nd.mk 6 Nd.zero 0 0 ([(Nd.classS ([97])), (Nd.classS ([97]))]))]).length) cap5457), (65, .int .u8 (way.tmod 12))], (agree_cons (look_right rfl hv5457) (agree_cons (look_right rfl hv5458) (agree_nil _))), ?_⟩
    obtain ⟨eb5459, eo5459, el5459, hea5459, hD5459, her5459, hn5459⟩ := (hts5457).at hbad
    subst hea5459
    refine WL.indexAddr (i := (way.tmod 12).toNat) rfl rfl Ty.slice27 rfl rfl (by omega) (by show _ < 12; omega) ?_
    refine WL.nil (fun a_ ha => ?_)
    exact ⟨_, β, ha, (Ext.refl _), BExt.refl _ _, hbi.ext (Ext.refl _), ⟨_, _, _, rfl, her5459, hn5459.dom (by intro k h1; refine ⟨trivial, ?_, h1.2⟩; replace h1 := h1.1; intro x hxm; have hi := hbi.hi x hxm; have lo := hbi.lo x hxm; (try dsimp only at h1); (repeat' first | (guard_hyp h1 : _ ∨ _; refine Or.elim h1 (fun h1 => ?_) (fun h1 => ?_)) | (guard_hyp h1 : _ ∧ _; have hx := h1.2; replace h1 := h1.1)) <;> first | contradiction | omega | exact hx.1 x hxm)⟩⟩
  · intro σ β w1 hE1 hbi hk
    have hz1 := hE1.size
    obtain ⟨_, hv5557, eb5557, eo5557, l5557, rfl, her5557, hn5557⟩ := hk 43 (by kernel_rfl) _ _ rfl rfl
    have hn5557 := hn5557.lt
    obtain ⟨sl5557, rfl, hts5557⟩ := hn5557.opn
    obtain ⟨a5557, cap5557, rfl, hlen5557, -⟩ := hts5557.get
    refine ⟨[(66, .pointer (some ⟨eb5557, eo5557, none⟩))], (agree_cons (look_right rfl hv5557) (agree_nil _)), ?_⟩
    refine WL.load_agg (l := tcells bad (.slice a5557 bad.subs.length cap5557)) rfl rfl Ty.agg29 rfl her5557 ?_
    refine WL.nil (fun a_ ha => ?_)
    exact ⟨_, β, ha, (Ext.refl _), BExt.refl _ _, hbi.ext (Ext.refl _), ⟨_, rfl, (hn5557.dom (by intro k h1; refine ⟨trivial, ?_, h1.2⟩; replace h1 := h1.1; intro x hxm; have hi := hbi.hi x hxm; have lo := hbi.lo x hxm; (try dsimp only at h1); (repeat' first | (guard_hyp h1 : _ ∨ _; refine Or.elim h1 (fun h1 => ?_) (fun h1 => ?_)) | (guard_hyp h1 : _ ∧ _; have hx := h1.2; replace h1 := h1.1)) <;> first | contradiction | omega | exact hx.1 x hxm))⟩⟩
  · intro σ β w1 hE1 hbi hk
    have hz1 := hE1.size
    refine ⟨[], (agree_nil _), ?_⟩
    refine WL.alloc rfl rfl Ty.zero29 rfl (fun b5657 w5662 hb5658 hE5661 hs5659 hR5660 => ?_)
    refine WL.nil (fun a_ ha => ?_)
    exact ⟨_, (11, b5657) :: β, ha, hE5661, BExt.cons (Nat.le_of_eq hb5658.symm), hbi.cons hE5661 hE1.size (Nat.le_of_eq hb5658.symm) hR5660.lt, b5657, rfl, hR5660, .head _⟩
  intro σ β w956 hE956 hbi956 hk
  have hz956 := hE956.size
  have hbi := hbi956
  obtain ⟨_, hv957, b957, rfl, hR957, hm957⟩ := hk 45 (by decide) _ _ rfl rfl
  have hlo957 := hbi.lo _ hm957
  have hhi957 := hbi.hi _ hm957
  obtain ⟨_, hv958, l958, rfl, hn958⟩ := hk 44 (by decide) _ _ rfl rfl
  have hn958 := hn958.dom (D' := fun k => ((True) ∧ b957 ≠ k) ∧ k < w956.heap.size) (fun k h => ⟨⟨h.1, h.2.1 _ hm957⟩, h.2.2⟩)
  obtain ⟨sl958, rfl, hts958⟩ := hn958.opn
  obtain ⟨a958, cap958, rfl, hlen958, -⟩ := hts958.get
  refine WL.know [(11, .pointer (some ⟨b957, 0, none⟩)), (67, .agg #[.int .u8 bad.kind, .int .u64 bad.set.a, .int .u64 bad.set.b, .int .u64 bad.set.c, .int .u64 bad.set.d, .int .i64 bad.least, .int .i64 bad.most, .slice a958 bad.subs.length cap958])] (agree_cons (look_right rfl hv957) (agree_cons (look_right rfl hv958) (agree_nil _))) ?_
  refine WL.store_box rfl rfl rfl hR957 Ty.agg29 rfl rfl (fun w961 hB960 hR959 => ?_)
  have hzhB960 := hB960.size
  refine WL.done' ?_ (fun _ _ h => h)
  refine WC.seqk ?_
  have h962 := (hB960.row (h52.ext hE956) (by omega))
  have h963 := ((h53.ext hE956).but hB960 (by intro h1; first | omega | ((try dsimp only at h1); (repeat' first | (guard_hyp h1 : _ ∨ _; refine Or.elim h1 (fun h1 => ?_) (fun h1 => ?_)) | (guard_hyp h1 : _ ∧ _; have hx := h1.2; replace h1 := h1.1)) <;> first | contradiction | omega)))
  have h964 := (hB960.row (h54.ext hE956) (by omega))
  have h965 := ((h55.ext hE956).but hB960 (by intro h1; first | omega | ((try dsimp only at h1); (repeat' first | (guard_hyp h1 : _ ∨ _; refine Or.elim h1 (fun h1 => ?_) (fun h1 => ?_)) | (guard_hyp h1 : _ ∧ _; have hx := h1.2; replace h1 := h1.1)) <;> first | contradiction | omega)))
  have h966 := (hB960.row (h56.ext hE956) (by omega))
  have h967 := ((h50.ext hE956).but hB960 (by intro h1; first | omega | ((try dsimp only at h1); (repeat' first | (guard_hyp h1 : _ ∨ _; refine Or.elim h1 (fun h1 => ?_) (fun h1 => ?_)) | (guard_hyp h1 : _ ∧ _; have hx := h1.2; replace h1 := h1.1)) <;> first | contradiction | omega)))
  have h968 := (hB960.row (hR47.ext hE956) (by omega))
  have h969 := ((h51.ext hE956).but hB960 (by intro h1; first | omega | ((try dsimp only at h1); (repeat' first | (guard_hyp h1 : _ ∨ _; refine Or.elim h1 (fun h1 => ?_) (fun h1 => ?_)) | (guard_hyp h1 : _ ∧ _; have hx := h1.2; replace h1 := h1.1)) <;> first | contradiction | omega)))
  refine WC.weaken (r' := [(6, .bool false), (16, .bool false), (7, .pointer (some ⟨b10, 0, none⟩)), (8, .pointer (some ⟨b16, 0, none⟩)), (11, .pointer (some ⟨b957, 0, none⟩))]) (subReg_cons rfl (subReg_cons rfl (subReg_cons rfl (subReg_cons rfl (subReg_cons rfl (subReg_nil _)))))) ?_
  refine WC.draw 9 [68, 69, 70, 71, 72, 73, 74, 75, 12] [pc (.agg #[.int .u8 A.kind, .int .u64 A.set.a, .int .u64 A.set.b, .int .u64 A.set.c, .int .u64 A.set.d, .int .i64 A.least, .int .i64 A.most, .slice a3 A.subs.length cap3]), pnode (fun _ => True) (Nd.mk 6 Nd.zero 0 0 [A]), pc (.agg #[.int .u8 bad.kind, .int .u64 bad.set.a, .int .u64 bad.set.b, .int .u64 bad.set.c, .int .u64 bad.set.d, .int .i64 bad.least, .int .i64 bad.most, .slice a958 bad.subs.length cap958]), pnode (fun _ => True) (Nd.mk 6 Nd.zero 0 0 [bad]), pc (.agg #[.int .u8 B.kind, .int .u64 B.set.a, .int .u64 B.set.b, .int .u64 B.set.c, .int .u64 B.set.d, .int .i64 B.least, .int .i64 B.most, .slice a6 B.subs.length cap6]), pnode (fun _ => True) (Nd.mk 6 Nd.zero 0 0 [B]), pnodes (fun _ => True) ([(Nd.mk 6 Nd.zero 0 0 [A]), (Nd.mk 6 Nd.zero 0 0 [bad]), (Nd.mk 6 Nd.zero 0 0 [B])]), pnode (fun _ => True) (Nd.mk 3 Nd.zero 0 0 ([(Nd.mk 6 Nd.zero 0 0 [A]), (Nd.mk 6 Nd.zero 0 0 [bad]), (Nd.mk 6 Nd.zero 0 0 [B])])), palloc 12 [.int .u8 0, .int .u64 0, .int .u64 0, .int .u64 0, .int .u64 0, .int .i64 0, .int .i64 0, .slice none 0 0] 29] (by kernel_rfl) (by kernel_rfl) ⟨KW_pc _, KW_pnode _ _, KW_pc _, KW_pnode _ _, KW_pc _, KW_pnode _ _, KW_pnodes _ _, KW_pnode _ _, KW_palloc _ _ _, trivial⟩ rfl rfl rfl (StepsOn.cons ?_ (StepsOn.cons ?_ (StepsOn.cons ?_ (StepsOn.cons ?_ (StepsOn.cons ?_ (StepsOn.cons ?_ (StepsOn.cons ?_ (StepsOn.cons ?_ (StepsOn.cons ?_ (StepsOn.nil _)))))))))) ?_
  · intro σ β w1 hE1 hbi hk
    have hz1 := hE1.size
    refine ⟨[], (agree_nil _), ?_⟩
    refine WL.load_box rfl rfl rfl (h962.ext hE1) Ty.agg29 ?_
    refine WL.nil (fun a_ ha => ?_)
    exact ⟨_, β, ha, (Ext.refl _), BExt.refl _ _, hbi.ext (Ext.refl _), rfl⟩
  · intro σ β w1 hE1 hbi hk
    have hz1 := hE1.size
    obtain ⟨_, hv2170, rfl⟩ := hk 0 (by kernel_rfl) _ _ rfl rfl
    refine ⟨[(68, .agg #[.int .u8 A.kind, .int .u64 A.set.a, .int .u64 A.set.b, .int .u64 A.set.c, .int .u64 A.set.d, .int .i64 A.least, .int .i64 A.most, .slice a3 A.subs.length cap3])], (agree_cons (look_right rfl hv2170) (agree_nil _)), ?_⟩
    refine WL.call rfl rfl rfl Ty.ent24 (group_ok _ _ _ A (h963.ext hE1)) ?_
    rintro _ w2173 ⟨l2171, rfl, hr2171, hE2172⟩
    have hzhE2172 := hE2172.size
    refine ⟨_, rfl, ?_⟩
    have hn2171 := hr2171.lt
    obtain ⟨sl2171, rfl, hts2171⟩ := hn2171.opn
    obtain ⟨a2171, cap2171, rfl, hlen2171, -⟩ := hts2171.get
    refine WL.nil (fun a_ ha => ?_)
    exact ⟨_, β, ha, hE2172, BExt.refl _ _, hbi.ext hE2172, ⟨_, rfl, (hr2171.lt.dom (by intro k h1; refine ⟨trivial, ?_, h1.2⟩; replace h1 := h1.1; intro x hxm; have hi := hbi.hi x hxm; have lo := hbi.lo x hxm; (try dsimp only at h1); (repeat' first | (guard_hyp h1 : _ ∨ _; refine Or.elim h1 (fun h1 => ?_) (fun h1 => ?_)) | (guard_hyp h1 : _ ∧ _; have hx := h1.2; replace h1 := h1.1)) <;> first | contradiction | omega | exact hx.1 x hxm))⟩⟩
  · intro σ β w1 hE1 hbi hk
    have hz1 := hE1.size
    refine ⟨[], (agree_nil _), ?_⟩
    refine WL.load_box rfl rfl rfl (hR959.ext hE1) Ty.agg29 ?_
    refine WL.nil (fun a_ ha => ?_)
    exact ⟨_, β, ha, (Ext.refl _), BExt.refl _ _, hbi.ext (Ext.refl _), rfl⟩
  · intro σ β w1 hE1 hbi hk
    have hz1 := hE1.size
    obtain ⟨_, hv2370, rfl⟩ := hk 2 (by kernel_rfl) _ _ rfl rfl
    refine ⟨[(70, .agg #[.int .u8 bad.kind, .int .u64 bad.set.a, .int .u64 bad.set.b, .int .u64 bad.set.c, .int .u64 bad.set.d, .int .i64 bad.least, .int .i64 bad.most, .slice a958 bad.subs.length cap958])], (agree_cons (look_right rfl hv2370) (agree_nil _)), ?_⟩
    have h2371 := ((hn958.but hB960 (by intro h1; first | omega | ((try dsimp only at h1); (repeat' first | (guard_hyp h1 : _ ∨ _; refine Or.elim h1 (fun h1 => ?_) (fun h1 => ?_)) | (guard_hyp h1 : _ ∧ _; have hx := h1.2; replace h1 := h1.1)) <;> first | contradiction | omega))).ext hE1)
    refine WL.call rfl rfl rfl Ty.ent24 (group_ok _ _ _ bad h2371) ?_
    rintro _ w2374 ⟨l2372, rfl, hr2372, hE2373⟩
    have hzhE2373 := hE2373.size
    refine ⟨_, rfl, ?_⟩
    have hn2372 := hr2372.lt
    obtain ⟨sl2372, rfl, hts2372⟩ := hn2372.opn
    obtain ⟨a2372, cap2372, rfl, hlen2372, -⟩ := hts2372.get
    refine WL.nil (fun a_ ha => ?_)
    exact ⟨_, β, ha, hE2373, BExt.refl _ _, hbi.ext hE2373, ⟨_, rfl, (hr2372.lt.dom (by intro k h1; refine ⟨trivial, ?_, h1.2⟩; replace h1 := h1.1; intro x hxm; have hi := hbi.hi x hxm; have lo := hbi.lo x hxm; (try dsimp only at h1); (repeat' first | (guard_hyp h1 : _ ∨ _; refine Or.elim h1 (fun h1 => ?_) (fun h1 => ?_)) | (guard_hyp h1 : _ ∧ _; have hx := h1.2; replace h1 := h1.1)) <;> first | contradiction | omega | exact hx.1 x hxm))⟩⟩
  · intro σ β w1 hE1 hbi hk
    have hz1 := hE1.size
    refine ⟨[], (agree_nil _), ?_⟩
    refine WL.load_box rfl rfl rfl (h964.ext hE1) Ty.agg29 ?_
    refine WL.nil (fun a_ ha => ?_)
    exact ⟨_, β, ha, (Ext.refl _), BExt.refl _ _, hbi.ext (Ext.refl _), rfl⟩
  · intro σ β w1 hE1 hbi hk
    have hz1 := hE1.size
    obtain ⟨_, hv2570, rfl⟩ := hk 4 (by kernel_rfl) _ _ rfl rfl
    refine ⟨[(72, .agg #[.int .u8 B.kind, .int .u64 B.set.a, .int .u64 B.set.b, .int .u64 B.set.c, .int .u64 B.set.d, .int .i64 B.least, .int .i64 B.most, .slice a6 B.subs.length cap6])], (agree_cons (look_right rfl hv2570) (agree_nil _)), ?_⟩
    refine WL.call rfl rfl rfl Ty.ent24 (group_ok _ _ _ B (h965.ext hE1)) ?_
    rintro _ w2573 ⟨l2571, rfl, hr2571, hE2572⟩
    have hzhE2572 := hE2572.size
    refine ⟨_, rfl, ?_⟩
    have hn2571 := hr2571.lt
    obtain ⟨sl2571, rfl, hts2571⟩ := hn2571.opn
    obtain ⟨a2571, cap2571, rfl, hlen2571, -⟩ := hts2571.get
    refine WL.nil (fun a_ ha => ?_)
    exact ⟨_, β, ha, hE2572, BExt.refl _ _, hbi.ext hE2572, ⟨_, rfl, (hr2571.lt.dom (by intro k h1; refine ⟨trivial, ?_, h1.2⟩; replace h1 := h1.1; intro x hxm; have hi := hbi.hi x hxm; have lo := hbi.lo x hxm; (try dsimp only at h1); (repeat' first | (guard_hyp h1 : _ ∨ _; refine Or.elim h1 (fun h1 => ?_) (fun h1 => ?_)) | (guard_hyp h1 : _ ∧ _; have hx := h1.2; replace h1 := h1.1)) <;> first | contradiction | omega | exact hx.1 x hxm))⟩⟩
  · intro σ β w1 hE1 hbi hk
    have hz1 := hE1.size
    obtain ⟨_, hv2670, l2670, rfl, hn2670⟩ := hk 1 (by kernel_rfl) _ _ rfl rfl
    have hn2670 := hn2670.lt
    obtain ⟨sl2670, rfl, hts2670⟩ := hn2670.opn
    obtain ⟨a2670, cap2670, rfl, hlen2670, -⟩ := hts2670.get
    obtain ⟨_, hv2671, l2671, rfl, hn2671⟩ := hk 3 (by kernel_rfl) _ _ rfl rfl
    have hn2671 := hn2671.lt
    obtain ⟨sl2671, rfl, hts2671⟩ := hn2671.opn
    obtain ⟨a2671, cap2671, rfl, hlen2671, -⟩ := hts2671.get
    obtain ⟨_, hv2672, l2672, rfl, hn2672⟩ := hk 5 (by kernel_rfl) _ _ rfl rfl
    have hn2672 := hn2672.lt
    obtain ⟨sl2672, rfl, hts2672⟩ := hn2672.opn
    obtain ⟨a2672, cap2672, rfl, hlen2672, -⟩ := hts2672.get
    refine ⟨[(69, .agg #[.int .u8 (Nd.mk 6 Nd.zero 0 0 [A]).kind, .int .u64 (Nd.mk 6 Nd.zero 0 0 [A]).set.a, .int .u64 (Nd.mk 6 Nd.zero 0 0 [A]).set.b, .int .u64 (Nd.mk 6 Nd.zero 0 0 [A]).set.c, .int .u64 (Nd.mk 6 Nd.zero 0 0 [A]).set.d, .int .i64 (Nd.mk 6 Nd.zero 0 0 [A]).least, .int .i64 (Nd.mk 6 Nd.zero 0 0 [A]).most, .slice a2670 (Nd.mk 6 Nd.zero 0 0 [A]).subs.length cap2670]), (71, .agg #[.int .u8 (Nd.mk 6 Nd.zero 0 0 [bad]).kind, .int .u64 (Nd.mk 6 Nd.zero 0 0 [bad]).set.a, .int .u64 (Nd.mk 6 Nd.zero 0 0 [bad]).set.b, .int .u64 (Nd.mk 6 Nd.zero 0 0 [bad]).set.c, .int .u64 (Nd.mk 6 Nd.zero 0 0 [bad]).set.d, .int .i64 (Nd.mk 6 Nd.zero 0 0 [bad]).least, .int .i64 (Nd.mk 6 Nd.zero 0 0 [bad]).most, .slice a2671 (Nd.mk 6 Nd.zero 0 0 [bad]).subs.length cap2671]), (73, .agg #[.int .u8 (Nd.mk 6 Nd.zero 0 0 [B]).kind, .int .u64 (Nd.mk 6 Nd.zero 0 0 [B]).set.a, .int .u64 (Nd.mk 6 Nd.zero 0 0 [B]).set.b, .int .u64 (Nd.mk 6 Nd.zero 0 0 [B]).set.c, .int .u64 (Nd.mk 6 Nd.zero 0 0 [B]).set.d, .int .i64 (Nd.mk 6 Nd.zero 0 0 [B]).least, .int .i64 (Nd.mk 6 Nd.zero 0 0 [B]).most, .slice a2672 (Nd.mk 6 Nd.zero 0 0 [B]).subs.length cap2672])], (agree_cons (look_right rfl hv2670) (agree_cons (look_right rfl hv2671) (agree_cons (look_right rfl hv2672) (agree_nil _)))), ?_⟩
    refine WL.buildSlice (vs := [.agg #[.int .u8 (Nd.mk 6 Nd.zero 0 0 [A]).kind, .int .u64 (Nd.mk 6 Nd.zero 0 0 [A]).set.a, .int .u64 (Nd.mk 6 Nd.zero 0 0 [A]).set.b, .int .u64 (Nd.mk 6 Nd.zero 0 0 [A]).set.c, .int .u64 (Nd.mk 6 Nd.zero 0 0 [A]).set.d, .int .i64 (Nd.mk 6 Nd.zero 0 0 [A]).least, .int .i64 (Nd.mk 6 Nd.zero 0 0 [A]).most, .slice a2670 (Nd.mk 6 Nd.zero 0 0 [A]).subs.length cap2670], .agg #[.int .u8 (Nd.mk 6 Nd.zero 0 0 [bad]).kind, .int .u64 (Nd.mk 6 Nd.zero 0 0 [bad]).set.a, .int .u64 (Nd.mk 6 Nd.zero 0 0 [bad]).set.b, .int .u64 (Nd.mk 6 Nd.zero 0 0 [bad]).set.c, .int .u64 (Nd.mk 6 Nd.zero 0 0 [bad]).set.d, .int .i64 (Nd.mk 6 Nd.zero 0 0 [bad]).least, .int .i64 (Nd.mk 6 Nd.zero 0 0 [bad]).most, .slice a2671 (Nd.mk 6 Nd.zero 0 0 [bad]).subs.length cap2671], .agg #[.int .u8 (Nd.mk 6 Nd.zero 0 0 [B]).kind, .int .u64 (Nd.mk 6 Nd.zero 0 0 [B]).set.a, .int .u64 (Nd.mk 6 Nd.zero 0 0 [B]).set.b, .int .u64 (Nd.mk 6 Nd.zero 0 0 [B]).set.c, .int .u64 (Nd.mk 6 Nd.zero 0 0 [B]).set.d, .int .i64 (Nd.mk 6 Nd.zero 0 0 [B]).least, .int .i64 (Nd.mk 6 Nd.zero 0 0 [B]).most, .slice a2672 (Nd.mk 6 Nd.zero 0 0 [B]).subs.length cap2672]]) (cells := [.int .u8 (Nd.mk 6 Nd.zero 0 0 [A]).kind, .int .u64 (Nd.mk 6 Nd.zero 0 0 [A]).set.a, .int .u64 (Nd.mk 6 Nd.zero 0 0 [A]).set.b, .int .u64 (Nd.mk 6 Nd.zero 0 0 [A]).set.c, .int .u64 (Nd.mk 6 Nd.zero 0 0 [A]).set.d, .int .i64 (Nd.mk 6 Nd.zero 0 0 [A]).least, .int .i64 (Nd.mk 6 Nd.zero 0 0 [A]).most, .slice a2670 (Nd.mk 6 Nd.zero 0 0 [A]).subs.length cap2670, .int .u8 (Nd.mk 6 Nd.zero 0 0 [bad]).kind, .int .u64 (Nd.mk 6 Nd.zero 0 0 [bad]).set.a, .int .u64 (Nd.mk 6 Nd.zero 0 0 [bad]).set.b, .int .u64 (Nd.mk 6 Nd.zero 0 0 [bad]).set.c, .int .u64 (Nd.mk 6 Nd.zero 0 0 [bad]).set.d, .int .i64 (Nd.mk 6 Nd.zero 0 0 [bad]).least, .int .i64 (Nd.mk 6 Nd.zero 0 0 [bad]).most, .slice a2671 (Nd.mk 6 Nd.zero 0 0 [bad]).subs.length cap2671, .int .u8 (Nd.mk 6 Nd.zero 0 0 [B]).kind, .int .u64 (Nd.mk 6 Nd.zero 0 0 [B]).set.a, .int .u64 (Nd.mk 6 Nd.zero 0 0 [B]).set.b, .int .u64 (Nd.mk 6 Nd.zero 0 0 [B]).set.c, .int .u64 (Nd.mk 6 Nd.zero 0 0 [B]).set.d, .int .i64 (Nd.mk 6 Nd.zero 0 0 [B]).least, .int .i64 (Nd.mk 6 Nd.zero 0 0 [B]).most, .slice a2672 (Nd.mk 6 Nd.zero 0 0 [B]).subs.length cap2672]) rfl rfl Ty.slice27 Ty.zero29 rfl rfl rfl rfl rfl rfl (fun b2673 w2678 hb2674 hE2677 hs2675 hR2676 => ?_)
    have hts2673 := (NodesV.lit (n := 3) (ts := [(Nd.mk 6 Nd.zero 0 0 [A]), (Nd.mk 6 Nd.zero 0 0 [bad]), (Nd.mk 6 Nd.zero 0 0 [B])]) hR2676 (RowsL.cons (hn2670.ext hE2677) (RowsL.cons (hn2671.ext hE2677) (RowsL.cons (hn2672.ext hE2677) (RowsL.nil' _)))) rfl rfl (by decide)).lt
    refine WL.nil (fun a_ ha => ?_)
    exact ⟨_, β, ha, hE2677, BExt.refl _ _, hbi.ext hE2677, ⟨_, _, rfl, (hts2673.dom (by intro k h1; refine ⟨trivial, ?_, h1.2⟩; replace h1 := h1.1; intro x hxm; have hi := hbi.hi x hxm; have lo := hbi.lo x hxm; (try dsimp only at h1); (repeat' first | (guard_hyp h1 : _ ∨ _; refine Or.elim h1 (fun h1 => ?_) (fun h1 => ?_)) | (guard_hyp h1 : _ ∧ _; have hx := h1.2; replace h1 := h1.1)) <;> first | contradiction | omega | exact hx.1 x hxm))⟩⟩
  · intro σ β w1 hE1 hbi hk
    have hz1 := hE1.size
    obtain ⟨_, hv2770, a2770, cap2770, rfl, hts2770⟩ := hk 6 (by kernel_rfl) _ _ rfl rfl
    have hts2770 := hts2770.lt
    have hlen2770 := hts2770.len
    refine ⟨[(74, .slice a2770 (([(Nd.mk 6 Nd.zero 0 0 [A]), (Nd.mk 6 Nd.zero 0 0 [bad]), (Nd.mk 6 Nd.zero 0 0 [B])]).length) cap2770)], (agree_cons (look_right rfl hv2770) (agree_nil _)), ?_⟩
    refine WL.call rfl rfl rfl Ty.ent21 (cat_ok _ _ _ _ ([(Nd.mk 6 Nd.zero 0 0 [A]), (Nd.mk 6 Nd.zero 0 0 [bad]), (Nd.mk 6 Nd.zero 0 0 [B])]) hts2770) ?_
    rintro _ w2773 ⟨l2771, rfl, hr2771, hE2772⟩
    have hzhE2772 := hE2772.size
    refine ⟨_, rfl, ?_⟩
    have hn2771 := hr2771.lt
    obtain ⟨sl2771, rfl, hts2771⟩ := hn2771.opn
    obtain ⟨a2771, cap2771, rfl, hlen2771, -⟩ := hts2771.get
    refine WL.nil (fun a_ ha => ?_)
    exact ⟨_, β, ha, hE2772, BExt.refl _ _, hbi.ext hE2772, ⟨_, rfl, (hr2771.lt.dom (by intro k h1; refine ⟨trivial, ?_, h1.2⟩; replace h1 := h1.1; intro x hxm; have hi := hbi.hi x hxm; have lo := hbi.lo x hxm; (try dsimp only at h1); (repeat' first | (guard_hyp h1 : _ ∨ _; refine Or.elim h1 (fun h1 => ?_) (fun h1 => ?_)) | (guard_hyp h1 : _ ∧ _; have hx := h1.2; replace h1 := h1.1)) <;> first | contradiction | omega | exact hx.1 x hxm))⟩⟩
  · intro σ β w1 hE1 hbi hk
    have hz1 := hE1.size
    refine ⟨[], (agree_nil _), ?_⟩
    refine WL.alloc rfl rfl Ty.zero29 rfl (fun b2870 w2875 hb2871 hE2874 hs2872 hR2873 => ?_)
    refine WL.nil (fun a_ ha => ?_)
    exact ⟨_, (12, b2870) :: β, ha, hE2874, BExt.cons (Nat.le_of_eq hb2871.symm), hbi.cons hE2874 hE1.size (Nat.le_of_eq hb2871.symm) hR2873.lt, b2870, rfl, hR2873, .head _⟩
  intro σ β w1869 hE1869 hbi1869 hk
  have hz1869 := hE1869.size
  have hbi := hbi1869
  obtain ⟨_, hv1870, b1870, rfl, hR1870, hm1870⟩ := hk 8 (by decide) _ _ rfl rfl
  have hlo1870 := hbi.lo _ hm1870
  have hhi1870 := hbi.hi _ hm1870
  obtain ⟨_, hv1871, l1871, rfl, hn1871⟩ := hk 7 (by decide) _ _ rfl rfl
  have hn1871 := hn1871.dom (D' := fun k => ((True) ∧ b1870 ≠ k) ∧ k < w1869.heap.size) (fun k h => ⟨⟨h.1, h.2.1 _ hm1870⟩, h.2.2⟩)
  obtain ⟨sl1871, rfl, hts1871⟩ := hn1871.opn
  obtain ⟨a1871, cap1871, rfl, hlen1871, -⟩ := hts1871.get
  refine WL.know [(12, .pointer (some ⟨b1870, 0, none⟩)), (75, .agg #[.int .u8 (Nd.mk 3 Nd.zero 0 0 ([(Nd.mk 6 Nd.zero 0 0 [A]), (Nd.mk 6 Nd.zero 0 0 [bad]), (Nd.mk 6 Nd.zero 0 0 [B])])).kind, .int .u64 (Nd.mk 3 Nd.zero 0 0 ([(Nd.mk 6 Nd.zero 0 0 [A]), (Nd.mk 6 Nd.zero 0 0 [bad]), (Nd.mk 6 Nd.zero 0 0 [B])])).set.a, .int .u64 (Nd.mk 3 Nd.zero 0 0 ([(Nd.mk 6 Nd.zero 0 0 [A]), (Nd.mk 6 Nd.zero 0 0 [bad]), (Nd.mk 6 Nd.zero 0 0 [B])])).set.b, .int .u64 (Nd.mk 3 Nd.zero 0 0 ([(Nd.mk 6 Nd.zero 0 0 [A]), (Nd.mk 6 Nd.zero 0 0 [bad]), (Nd.mk 6 Nd.zero 0 0 [B])])).set.c, .int .u64 (Nd.mk 3 Nd.zero 0 0 ([(Nd.mk 6 Nd.zero 0 0 [A]), (Nd.mk 6 Nd.zero 0 0 [bad]), (Nd.mk 6 Nd.zero 0 0 [B])])).set.d, .int .i64 (Nd.mk 3 Nd.zero 0 0 ([(Nd.mk 6 Nd.zero 0 0 [A]), (Nd.mk 6 Nd.zero 0 0 [bad]), (Nd.mk 6 Nd.zero 0 0 [B])])).least, .int .i64 (Nd.mk 3 Nd.zero 0 0 ([(Nd.mk 6 Nd.zero 0 0 [A]), (Nd.mk 6 Nd.zero 0 0 [bad]), (Nd.mk 6 Nd.zero 0 0 [B])])).most, .slice a1871 (Nd.mk 3 Nd.zero 0 0 ([(Nd.mk 6 Nd.zero 0 0 [A]), (Nd.mk 6 Nd.zero 0 0 [bad]), (Nd.mk 6 Nd.zero 0 0 [B])])).subs.length cap1871])] (agree_cons (look_right rfl hv1870) (agree_cons (look_right rfl hv1871) (agree_nil _))) ?_
  refine WL.store_box rfl rfl rfl hR1870 Ty.agg29 rfl rfl (fun w1874 hB1873 hR1872 => ?_)
  have hzhB1873 := hB1873.size
  refine WL.done' ?_ (fun _ _ h => h)
  refine WC.seqk ?_
  refine WC.seqk ?_
  refine WC.region ?_
  refine WL.load_box rfl rfl rfl hR1872 Ty.agg29 ?_
  refine WL.call rfl rfl rfl Ty.ent12 (clean_ok _ _ _ _ (hn1871.but hB1873 (by intro h1; first | omega | ((try dsimp only at h1); (repeat' first | (guard_hyp h1 : _ ∨ _; refine Or.elim h1 (fun h1 => ?_) (fun h1 => ?_)) | (guard_hyp h1 : _ ∧ _; have hx := h1.2; replace h1 := h1.1)) <;> first | contradiction | omega)))) ?_
  rintro _ w1876 ⟨he, hE1875⟩
  have hq : (Nd.clean (Nd.mk 3 Nd.zero 0 0 ([(Nd.mk 6 Nd.zero 0 0 [A]), (Nd.mk 6 Nd.zero 0 0 [bad]), (Nd.mk 6 Nd.zero 0 0 [B])]))) = false := (Nd.wrong_not hbn)
  rw [hq] at he
  subst he
  clear hq
  have hzhE1875 := hE1875.size
  refine ⟨_, rfl, ?_⟩
  refine WL.move rfl rfl rfl ?_
  refine WL.load_box rfl rfl rfl (hR1872.ext hE1875) Ty.agg29 ?_
  refine WL.build (l := [.bool false, .bool false, .int .u8 (Nd.mk 3 Nd.zero 0 0 ([(Nd.mk 6 Nd.zero 0 0 [A]), (Nd.mk 6 Nd.zero 0 0 [bad]), (Nd.mk 6 Nd.zero 0 0 [B])])).kind, .int .u64 (Nd.mk 3 Nd.zero 0 0 ([(Nd.mk 6 Nd.zero 0 0 [A]), (Nd.mk 6 Nd.zero 0 0 [bad]), (Nd.mk 6 Nd.zero 0 0 [B])])).set.a, .int .u64 (Nd.mk 3 Nd.zero 0 0 ([(Nd.mk 6 Nd.zero 0 0 [A]), (Nd.mk 6 Nd.zero 0 0 [bad]), (Nd.mk 6 Nd.zero 0 0 [B])])).set.b, .int .u64 (Nd.mk 3 Nd.zero 0 0 ([(Nd.mk 6 Nd.zero 0 0 [A]), (Nd.mk 6 Nd.zero 0 0 [bad]), (Nd.mk 6 Nd.zero 0 0 [B])])).set.c, .int .u64 (Nd.mk 3 Nd.zero 0 0 ([(Nd.mk 6 Nd.zero 0 0 [A]), (Nd.mk 6 Nd.zero 0 0 [bad]), (Nd.mk 6 Nd.zero 0 0 [B])])).set.d, .int .i64 (Nd.mk 3 Nd.zero 0 0 ([(Nd.mk 6 Nd.zero 0 0 [A]), (Nd.mk 6 Nd.zero 0 0 [bad]), (Nd.mk 6 Nd.zero 0 0 [B])])).least, .int .i64 (Nd.mk 3 Nd.zero 0 0 ([(Nd.mk 6 Nd.zero 0 0 [A]), (Nd.mk 6 Nd.zero 0 0 [bad]), (Nd.mk 6 Nd.zero 0 0 [B])])).most, .slice a1871 (Nd.mk 3 Nd.zero 0 0 ([(Nd.mk 6 Nd.zero 0 0 [A]), (Nd.mk 6 Nd.zero 0 0 [bad]), (Nd.mk 6 Nd.zero 0 0 [B])])).subs.length cap1871]) rfl rfl Ty.zero36 Ty.st36 ⟨⟨rfl, rfl⟩, (by kernel_rfl)⟩ ?_
  have h1877 := ((hn1871.but hB1873 (by intro h1; first | omega | ((try dsimp only at h1); (repeat' first | (guard_hyp h1 : _ ∨ _; refine Or.elim h1 (fun h1 => ?_) (fun h1 => ?_)) | (guard_hyp h1 : _ ∧ _; have hx := h1.2; replace h1 := h1.1)) <;> first | contradiction | omega))).ext hE1875)
  refine WL.call rfl rfl rfl Ty.ent13 (check_ok _ _ false false _ (Nd.mk 3 Nd.zero 0 0 ([(Nd.mk 6 Nd.zero 0 0 [A]), (Nd.mk 6 Nd.zero 0 0 [bad]), (Nd.mk 6 Nd.zero 0 0 [B])])) h1877) ?_
  rintro _ w1879 ⟨rfl, hE1878⟩
  have hzhE1878 := hE1878.size
  refine ⟨_, rfl, ?_⟩
  refine WL.neq (b := false) rfl rfl rfl rfl (by rw [show Nd.check _ = 80 from Nd.wrong_check hbn]; rfl) ?_
  refine WL.pick_f rfl rfl rfl rfl ?_
  refine WL.move rfl rfl rfl ?_
  have h1880 := (((hB1873.row (hR959.ext hE1869) (by omega)).ext hE1875).ext hE1878)
  refine WL.load_box rfl rfl rfl h1880 Ty.agg29 ?_
  have h1881 := (((((hn958.but hB960 (by intro h1; first | omega | ((try dsimp only at h1); (repeat' first | (guard_hyp h1 : _ ∨ _; refine Or.elim h1 (fun h1 => ?_) (fun h1 => ?_)) | (guard_hyp h1 : _ ∧ _; have hx := h1.2; replace h1 := h1.1)) <;> first | contradiction | omega))).ext hE1869).but hB1873 (by intro h1; first | omega | ((try dsimp only at h1); (repeat' first | (guard_hyp h1 : _ ∨ _; refine Or.elim h1 (fun h1 => ?_) (fun h1 => ?_)) | (guard_hyp h1 : _ ∧ _; have hx := h1.2; replace h1 := h1.1)) <;> first | contradiction | omega))).ext hE1875).ext hE1878)
  refine WL.call rfl rfl rfl Ty.ent12 (clean_ok _ _ _ _ h1881) ?_
  rintro _ w1883 ⟨he, hE1882⟩
  have hq : (Nd.clean bad) = false := (Nd.not_clean hbn)
  rw [hq] at he
  subst he
  clear hq
  have hzhE1882 := hE1882.size
  refine ⟨_, rfl, ?_⟩
  refine WL.pick_f rfl rfl rfl rfl ?_
  refine WL.done' ?_ (fun _ _ h => h)
  refine WC.cond_f rfl ?_
  refine WC.skip'' ?_ (fun _ _ h => h)
  refine WC.seqk ?_
  refine WC.seqk ?_
  have h1884 := ((h1877.ext hE1878).ext hE1882)
  have h1885 := ((((hB1873.row (h962.ext hE1869) (by omega)).ext hE1875).ext hE1878).ext hE1882)
  have h1886 := (((((h963.ext hE1869).but hB1873 (by intro h1; first | omega | ((try dsimp only at h1); (repeat' first | (guard_hyp h1 : _ ∨ _; refine Or.elim h1 (fun h1 => ?_) (fun h1 => ?_)) | (guard_hyp h1 : _ ∧ _; have hx := h1.2; replace h1 := h1.1)) <;> first | contradiction | omega))).ext hE1875).ext hE1878).ext hE1882)
  have h1887 := ((((hB1873.row (h964.ext hE1869) (by omega)).ext hE1875).ext hE1878).ext hE1882)
  have h1888 := (((((h965.ext hE1869).but hB1873 (by intro h1; first | omega | ((try dsimp only at h1); (repeat' first | (guard_hyp h1 : _ ∨ _; refine Or.elim h1 (fun h1 => ?_) (fun h1 => ?_)) | (guard_hyp h1 : _ ∧ _; have hx := h1.2; replace h1 := h1.1)) <;> first | contradiction | omega))).ext hE1875).ext hE1878).ext hE1882)
  have h1889 := ((((hB1873.row (h966.ext hE1869) (by omega)).ext hE1875).ext hE1878).ext hE1882)
  have h1890 := (((((h967.ext hE1869).but hB1873 (by intro h1; first | omega | ((try dsimp only at h1); (repeat' first | (guard_hyp h1 : _ ∨ _; refine Or.elim h1 (fun h1 => ?_) (fun h1 => ?_)) | (guard_hyp h1 : _ ∧ _; have hx := h1.2; replace h1 := h1.1)) <;> first | contradiction | omega))).ext hE1875).ext hE1878).ext hE1882)
  have h1891 := ((((hB1873.row (h968.ext hE1869) (by omega)).ext hE1875).ext hE1878).ext hE1882)
  have h1892 := (((((h969.ext hE1869).but hB1873 (by intro h1; first | omega | ((try dsimp only at h1); (repeat' first | (guard_hyp h1 : _ ∨ _; refine Or.elim h1 (fun h1 => ?_) (fun h1 => ?_)) | (guard_hyp h1 : _ ∧ _; have hx := h1.2; replace h1 := h1.1)) <;> first | contradiction | omega))).ext hE1875).ext hE1878).ext hE1882)
  have h1893 := (((hR1872.ext hE1875).ext hE1878).ext hE1882)
  refine WC.weaken (r' := [(6, .bool false), (16, .bool false), (7, .pointer (some ⟨b10, 0, none⟩)), (8, .pointer (some ⟨b16, 0, none⟩)), (11, .pointer (some ⟨b957, 0, none⟩)), (12, .pointer (some ⟨b1870, 0, none⟩)), (87, .bool false)]) (subReg_cons rfl (subReg_cons rfl (subReg_cons rfl (subReg_cons rfl (subReg_cons rfl (subReg_cons rfl (subReg_cons rfl (subReg_nil _)))))))) ?_
  refine WC.draw 20 [88, 89, 90, 91, 92, 93, 94, 95, 96, 97, 98, 99, 100, 101, 102, 103, 104, 105, 106, 107] [pc (.agg #[.int .u8 A.kind, .int .u64 A.set.a, .int .u64 A.set.b, .int .u64 A.set.c, .int .u64 A.set.d, .int .i64 A.least, .int .i64 A.most, .slice a3 A.subs.length cap3]), pc (.agg #[.int .u8 (Nd.mk 3 Nd.zero 0 0 ([(Nd.mk 6 Nd.zero 0 0 [A]), (Nd.mk 6 Nd.zero 0 0 [bad]), (Nd.mk 6 Nd.zero 0 0 [B])])).kind, .int .u64 (Nd.mk 3 Nd.zero 0 0 ([(Nd.mk 6 Nd.zero 0 0 [A]), (Nd.mk 6 Nd.zero 0 0 [bad]), (Nd.mk 6 Nd.zero 0 0 [B])])).set.a, .int .u64 (Nd.mk 3 Nd.zero 0 0 ([(Nd.mk 6 Nd.zero 0 0 [A]), (Nd.mk 6 Nd.zero 0 0 [bad]), (Nd.mk 6 Nd.zero 0 0 [B])])).set.b, .int .u64 (Nd.mk 3 Nd.zero 0 0 ([(Nd.mk 6 Nd.zero 0 0 [A]), (Nd.mk 6 Nd.zero 0 0 [bad]), (Nd.mk 6 Nd.zero 0 0 [B])])).set.c, .int .u64 (Nd.mk 3 Nd.zero 0 0 ([(Nd.mk 6 Nd.zero 0 0 [A]), (Nd.mk 6 Nd.zero 0 0 [bad]), (Nd.mk 6 Nd.zero 0 0 [B])])).set.d, .int .i64 (Nd.mk 3 Nd.zero 0 0 ([(Nd.mk 6 Nd.zero 0 0 [A]), (Nd.mk 6 Nd.zero 0 0 [bad]), (Nd.mk 6 Nd.zero 0 0 [B])])).least, .int .i64 (Nd.mk 3 Nd.zero 0 0 ([(Nd.mk 6 Nd.zero 0 0 [A]), (Nd.mk 6 Nd.zero 0 0 [bad]), (Nd.mk 6 Nd.zero 0 0 [B])])).most, .slice a1871 (Nd.mk 3 Nd.zero 0 0 ([(Nd.mk 6 Nd.zero 0 0 [A]), (Nd.mk 6 Nd.zero 0 0 [bad]), (Nd.mk 6 Nd.zero 0 0 [B])])).subs.length cap1871]), pnodes (fun _ => True) ([A, (Nd.mk 3 Nd.zero 0 0 ([(Nd.mk 6 Nd.zero 0 0 [A]), (Nd.mk 6 Nd.zero 0 0 [bad]), (Nd.mk 6 Nd.zero 0 0 [B])]))]), pnode (fun k => w1883.heap.size ≤ k) (Nd.seq ([A, (Nd.mk 3 Nd.zero 0 0 ([(Nd.mk 6 Nd.zero 0 0 [A]), (Nd.mk 6 Nd.zero 0 0 [bad]), (Nd.mk 6 Nd.zero 0 0 [B])]))])), pc (.agg #[.int .u8 (Nd.mk 3 Nd.zero 0 0 ([(Nd.mk 6 Nd.zero 0 0 [A]), (Nd.mk 6 Nd.zero 0 0 [bad]), (Nd.mk 6 Nd.zero 0 0 [B])])).kind, .int .u64 (Nd.mk 3 Nd.zero 0 0 ([(Nd.mk 6 Nd.zero 0 0 [A]), (Nd.mk 6 Nd.zero 0 0 [bad]), (Nd.mk 6 Nd.zero 0 0 [B])])).set.a, .int .u64 (Nd.mk 3 Nd.zero 0 0 ([(Nd.mk 6 Nd.zero 0 0 [A]), (Nd.mk 6 Nd.zero 0 0 [bad]), (Nd.mk 6 Nd.zero 0 0 [B])])).set.b, .int .u64 (Nd.mk 3 Nd.zero 0 0 ([(Nd.mk 6 Nd.zero 0 0 [A]), (Nd.mk 6 Nd.zero 0 0 [bad]), (Nd.mk 6 Nd.zero 0 0 [B])])).set.c, .int .u64 (Nd.mk 3 Nd.zero 0 0 ([(Nd.mk 6 Nd.zero 0 0 [A]), (Nd.mk 6 Nd.zero 0 0 [bad]), (Nd.mk 6 Nd.zero 0 0 [B])])).set.d, .int .i64 (Nd.mk 3 Nd.zero 0 0 ([(Nd.mk 6 Nd.zero 0 0 [A]), (Nd.mk 6 Nd.zero 0 0 [bad]), (Nd.mk 6 Nd.zero 0 0 [B])])).least, .int .i64 (Nd.mk 3 Nd.zero 0 0 ([(Nd.mk 6 Nd.zero 0 0 [A]), (Nd.mk 6 Nd.zero 0 0 [bad]), (Nd.mk 6 Nd.zero 0 0 [B])])).most, .slice a1871 (Nd.mk 3 Nd.zero 0 0 ([(Nd.mk 6 Nd.zero 0 0 [A]), (Nd.mk 6 Nd.zero 0 0 [bad]), (Nd.mk 6 Nd.zero 0 0 [B])])).subs.length cap1871]), pc (.agg #[.int .u8 B.kind, .int .u64 B.set.a, .int .u64 B.set.b, .int .u64 B.set.c, .int .u64 B.set.d, .int .i64 B.least, .int .i64 B.most, .slice a6 B.subs.length cap6]), pnodes (fun _ => True) ([(Nd.mk 3 Nd.zero 0 0 ([(Nd.mk 6 Nd.zero 0 0 [A]), (Nd.mk 6 Nd.zero 0 0 [bad]), (Nd.mk 6 Nd.zero 0 0 [B])])), B]), pnode (fun k => w1883.heap.size ≤ k) (Nd.or ([(Nd.mk 3 Nd.zero 0 0 ([(Nd.mk 6 Nd.zero 0 0 [A]), (Nd.mk 6 Nd.zero 0 0 [bad]), (Nd.mk 6 Nd.zero 0 0 [B])])), B])), pc (.agg #[.int .u8 (Nd.mk 3 Nd.zero 0 0 ([(Nd.mk 6 Nd.zero 0 0 [A]), (Nd.mk 6 Nd.zero 0 0 [bad]), (Nd.mk 6 Nd.zero 0 0 [B])])).kind, .int .u64 (Nd.mk 3 Nd.zero 0 0 ([(Nd.mk 6 Nd.zero 0 0 [A]), (Nd.mk 6 Nd.zero 0 0 [bad]), (Nd.mk 6 Nd.zero 0 0 [B])])).set.a, .int .u64 (Nd.mk 3 Nd.zero 0 0 ([(Nd.mk 6 Nd.zero 0 0 [A]), (Nd.mk 6 Nd.zero 0 0 [bad]), (Nd.mk 6 Nd.zero 0 0 [B])])).set.b, .int .u64 (Nd.mk 3 Nd.zero 0 0 ([(Nd.mk 6 Nd.zero 0 0 [A]), (Nd.mk 6 Nd.zero 0 0 [bad]), (Nd.mk 6 Nd.zero 0 0 [B])])).set.c, .int .u64 (Nd.mk 3 Nd.zero 0 0 ([(Nd.mk 6 Nd.zero 0 0 [A]), (Nd.mk 6 Nd.zero 0 0 [bad]), (Nd.mk 6 Nd.zero 0 0 [B])])).set.d, .int .i64 (Nd.mk 3 Nd.zero 0 0 ([(Nd.mk 6 Nd.zero 0 0 [A]), (Nd.mk 6 Nd.zero 0 0 [bad]), (Nd.mk 6 Nd.zero 0 0 [B])])).least, .int .i64 (Nd.mk 3 Nd.zero 0 0 ([(Nd.mk 6 Nd.zero 0 0 [A]), (Nd.mk 6 Nd.zero 0 0 [bad]), (Nd.mk 6 Nd.zero 0 0 [B])])).most, .slice a1871 (Nd.mk 3 Nd.zero 0 0 ([(Nd.mk 6 Nd.zero 0 0 [A]), (Nd.mk 6 Nd.zero 0 0 [bad]), (Nd.mk 6 Nd.zero 0 0 [B])])).subs.length cap1871]), pnode (fun k => w1883.heap.size ≤ k) (Nd.times (Nd.mk 3 Nd.zero 0 0 ([(Nd.mk 6 Nd.zero 0 0 [A]), (Nd.mk 6 Nd.zero 0 0 [bad]), (Nd.mk 6 Nd.zero 0 0 [B])])) 0 (-1)), pc (.agg #[.int .u8 (Nd.mk 3 Nd.zero 0 0 ([(Nd.mk 6 Nd.zero 0 0 [A]), (Nd.mk 6 Nd.zero 0 0 [bad]), (Nd.mk 6 Nd.zero 0 0 [B])])).kind, .int .u64 (Nd.mk 3 Nd.zero 0 0 ([(Nd.mk 6 Nd.zero 0 0 [A]), (Nd.mk 6 Nd.zero 0 0 [bad]), (Nd.mk 6 Nd.zero 0 0 [B])])).set.a, .int .u64 (Nd.mk 3 Nd.zero 0 0 ([(Nd.mk 6 Nd.zero 0 0 [A]), (Nd.mk 6 Nd.zero 0 0 [bad]), (Nd.mk 6 Nd.zero 0 0 [B])])).set.b, .int .u64 (Nd.mk 3 Nd.zero 0 0 ([(Nd.mk 6 Nd.zero 0 0 [A]), (Nd.mk 6 Nd.zero 0 0 [bad]), (Nd.mk 6 Nd.zero 0 0 [B])])).set.c, .int .u64 (Nd.mk 3 Nd.zero 0 0 ([(Nd.mk 6 Nd.zero 0 0 [A]), (Nd.mk 6 Nd.zero 0 0 [bad]), (Nd.mk 6 Nd.zero 0 0 [B])])).set.d, .int .i64 (Nd.mk 3 Nd.zero 0 0 ([(Nd.mk 6 Nd.zero 0 0 [A]), (Nd.mk 6 Nd.zero 0 0 [bad]), (Nd.mk 6 Nd.zero 0 0 [B])])).least, .int .i64 (Nd.mk 3 Nd.zero 0 0 ([(Nd.mk 6 Nd.zero 0 0 [A]), (Nd.mk 6 Nd.zero 0 0 [bad]), (Nd.mk 6 Nd.zero 0 0 [B])])).most, .slice a1871 (Nd.mk 3 Nd.zero 0 0 ([(Nd.mk 6 Nd.zero 0 0 [A]), (Nd.mk 6 Nd.zero 0 0 [bad]), (Nd.mk 6 Nd.zero 0 0 [B])])).subs.length cap1871]), pnode (fun k => w1883.heap.size ≤ k) (Nd.capture (Nd.mk 3 Nd.zero 0 0 ([(Nd.mk 6 Nd.zero 0 0 [A]), (Nd.mk 6 Nd.zero 0 0 [bad]), (Nd.mk 6 Nd.zero 0 0 [B])]))), pc (.agg #[.int .u8 bad.kind, .int .u64 bad.set.a, .int .u64 bad.set.b, .int .u64 bad.set.c, .int .u64 bad.set.d, .int .i64 bad.least, .int .i64 bad.most, .slice a958 bad.subs.length cap958]), pnode (fun k => w1883.heap.size ≤ k) (Nd.capture bad), pc (.agg #[.int .u8 bad.kind, .int .u64 bad.set.a, .int .u64 bad.set.b, .int .u64 bad.set.c, .int .u64 bad.set.d, .int .i64 bad.least, .int .i64 bad.most, .slice a958 bad.subs.length cap958]), pnodes (fun _ => True) ([bad]), pnode (fun k => w1883.heap.size ≤ k) (Nd.seq ([bad])), pnodes (fun _ => True) ([(Nd.seq ([A, (Nd.mk 3 Nd.zero 0 0 ([(Nd.mk 6 Nd.zero 0 0 [A]), (Nd.mk 6 Nd.zero 0 0 [bad]), (Nd.mk 6 Nd.zero 0 0 [B])]))])), (Nd.or ([(Nd.mk 3 Nd.zero 0 0 ([(Nd.mk 6 Nd.zero 0 0 [A]), (Nd.mk 6 Nd.zero 0 0 [bad]), (Nd.mk 6 Nd.zero 0 0 [B])])), B])), (Nd.times (Nd.mk 3 Nd.zero 0 0 ([(Nd.mk 6 Nd.zero 0 0 [A]), (Nd.mk 6 Nd.zero 0 0 [bad]), (Nd.mk 6 Nd.zero 0 0 [B])])) 0 (-1)), (Nd.capture (Nd.mk 3 Nd.zero 0 0 ([(Nd.mk 6 Nd.zero 0 0 [A]), (Nd.mk 6 Nd.zero 0 0 [bad]), (Nd.mk 6 Nd.zero 0 0 [B])]))), (Nd.capture bad), (Nd.seq ([bad]))]), pc (.int .i64 6), pc (.int .i64 0)] (by kernel_rfl) (by kernel_rfl) ⟨KW_pc _, KW_pc _, KW_pnodes _ _, KW_pnode _ _, KW_pc _, KW_pc _, KW_pnodes _ _, KW_pnode _ _, KW_pc _, KW_pnode _ _, KW_pc _, KW_pnode _ _, KW_pc _, KW_pnode _ _, KW_pc _, KW_pnodes _ _, KW_pnode _ _, KW_pnodes _ _, KW_pc _, KW_pc _, trivial⟩ rfl rfl rfl (StepsOn.cons ?_ (StepsOn.cons ?_ (StepsOn.cons ?_ (StepsOn.cons ?_ (StepsOn.cons ?_ (StepsOn.cons ?_ (StepsOn.cons ?_ (StepsOn.cons ?_ (StepsOn.cons ?_ (StepsOn.cons ?_ (StepsOn.cons ?_ (StepsOn.cons ?_ (StepsOn.cons ?_ (StepsOn.cons ?_ (StepsOn.cons ?_ (StepsOn.cons ?_ (StepsOn.cons ?_ (StepsOn.cons ?_ (StepsOn.cons ?_ (StepsOn.cons ?_ (StepsOn.nil _))))))))))))))))))))) ?_
  · intro σ β w1 hE1 hbi hk
    have hz1 := hE1.size
    refine ⟨[], (agree_nil _), ?_⟩
    refine WL.load_box rfl rfl rfl (h1885.ext hE1) Ty.agg29 ?_
    refine WL.nil (fun a_ ha => ?_)
    exact ⟨_, β, ha, (Ext.refl _), BExt.refl _ _, hbi.ext (Ext.refl _), rfl⟩
  · intro σ β w1 hE1 hbi hk
    have hz1 := hE1.size
    refine ⟨[], (agree_nil _), ?_⟩
    refine WL.load_box rfl rfl rfl (h1893.ext hE1) Ty.agg29 ?_
    refine WL.nil (fun a_ ha => ?_)
    exact ⟨_, β, ha, (Ext.refl _), BExt.refl _ _, hbi.ext (Ext.refl _), rfl⟩
  · intro σ β w1 hE1 hbi hk
    have hz1 := hE1.size
    obtain ⟨_, hv3194, rfl⟩ := hk 0 (by kernel_rfl) _ _ rfl rfl
    obtain ⟨_, hv3195, rfl⟩ := hk 1 (by kernel_rfl) _ _ rfl rfl
    refine ⟨[(88, .agg #[.int .u8 A.kind, .int .u64 A.set.a, .int .u64 A.set.b, .int .u64 A.set.c, .int .u64 A.set.d, .int .i64 A.least, .int .i64 A.most, .slice a3 A.subs.length cap3]), (89, .agg #[.int .u8 (Nd.mk 3 Nd.zero 0 0 ([(Nd.mk 6 Nd.zero 0 0 [A]), (Nd.mk 6 Nd.zero 0 0 [bad]), (Nd.mk 6 Nd.zero 0 0 [B])])).kind, .int .u64 (Nd.mk 3 Nd.zero 0 0 ([(Nd.mk 6 Nd.zero 0 0 [A]), (Nd.mk 6 Nd.zero 0 0 [bad]), (Nd.mk 6 Nd.zero 0 0 [B])])).set.a, .int .u64 (Nd.mk 3 Nd.zero 0 0 ([(Nd.mk 6 Nd.zero 0 0 [A]), (Nd.mk 6 Nd.zero 0 0 [bad]), (Nd.mk 6 Nd.zero 0 0 [B])])).set.b, .int .u64 (Nd.mk 3 Nd.zero 0 0 ([(Nd.mk 6 Nd.zero 0 0 [A]), (Nd.mk 6 Nd.zero 0 0 [bad]), (Nd.mk 6 Nd.zero 0 0 [B])])).set.c, .int .u64 (Nd.mk 3 Nd.zero 0 0 ([(Nd.mk 6 Nd.zero 0 0 [A]), (Nd.mk 6 Nd.zero 0 0 [bad]), (Nd.mk 6 Nd.zero 0 0 [B])])).set.d, .int .i64 (Nd.mk 3 Nd.zero 0 0 ([(Nd.mk 6 Nd.zero 0 0 [A]), (Nd.mk 6 Nd.zero 0 0 [bad]), (Nd.mk 6 Nd.zero 0 0 [B])])).least, .int .i64 (Nd.mk 3 Nd.zero 0 0 ([(Nd.mk 6 Nd.zero 0 0 [A]), (Nd.mk 6 Nd.zero 0 0 [bad]), (Nd.mk 6 Nd.zero 0 0 [B])])).most, .slice a1871 (Nd.mk 3 Nd.zero 0 0 ([(Nd.mk 6 Nd.zero 0 0 [A]), (Nd.mk 6 Nd.zero 0 0 [bad]), (Nd.mk 6 Nd.zero 0 0 [B])])).subs.length cap1871])], (agree_cons (look_right rfl hv3194) (agree_cons (look_right rfl hv3195) (agree_nil _))), ?_⟩
    refine WL.buildSlice (vs := [.agg #[.int .u8 A.kind, .int .u64 A.set.a, .int .u64 A.set.b, .int .u64 A.set.c, .int .u64 A.set.d, .int .i64 A.least, .int .i64 A.most, .slice a3 A.subs.length cap3], .agg #[.int .u8 (Nd.mk 3 Nd.zero 0 0 ([(Nd.mk 6 Nd.zero 0 0 [A]), (Nd.mk 6 Nd.zero 0 0 [bad]), (Nd.mk 6 Nd.zero 0 0 [B])])).kind, .int .u64 (Nd.mk 3 Nd.zero 0 0 ([(Nd.mk 6 Nd.zero 0 0 [A]), (Nd.mk 6 Nd.zero 0 0 [bad]), (Nd.mk 6 Nd.zero 0 0 [B])])).set.a, .int .u64 (Nd.mk 3 Nd.zero 0 0 ([(Nd.mk 6 Nd.zero 0 0 [A]), (Nd.mk 6 Nd.zero 0 0 [bad]), (Nd.mk 6 Nd.zero 0 0 [B])])).set.b, .int .u64 (Nd.mk 3 Nd.zero 0 0 ([(Nd.mk 6 Nd.zero 0 0 [A]), (Nd.mk 6 Nd.zero 0 0 [bad]), (Nd.mk 6 Nd.zero 0 0 [B])])).set.c, .int .u64 (Nd.mk 3 Nd.zero 0 0 ([(Nd.mk 6 Nd.zero 0 0 [A]), (Nd.mk 6 Nd.zero 0 0 [bad]), (Nd.mk 6 Nd.zero 0 0 [B])])).set.d, .int .i64 (Nd.mk 3 Nd.zero 0 0 ([(Nd.mk 6 Nd.zero 0 0 [A]), (Nd.mk 6 Nd.zero 0 0 [bad]), (Nd.mk 6 Nd.zero 0 0 [B])])).least, .int .i64 (Nd.mk 3 Nd.zero 0 0 ([(Nd.mk 6 Nd.zero 0 0 [A]), (Nd.mk 6 Nd.zero 0 0 [bad]), (Nd.mk 6 Nd.zero 0 0 [B])])).most, .slice a1871 (Nd.mk 3 Nd.zero 0 0 ([(Nd.mk 6 Nd.zero 0 0 [A]), (Nd.mk 6 Nd.zero 0 0 [bad]), (Nd.mk 6 Nd.zero 0 0 [B])])).subs.length cap1871]]) (cells := [.int .u8 A.kind, .int .u64 A.set.a, .int .u64 A.set.b, .int .u64 A.set.c, .int .u64 A.set.d, .int .i64 A.least, .int .i64 A.most, .slice a3 A.subs.length cap3, .int .u8 (Nd.mk 3 Nd.zero 0 0 ([(Nd.mk 6 Nd.zero 0 0 [A]), (Nd.mk 6 Nd.zero 0 0 [bad]), (Nd.mk 6 Nd.zero 0 0 [B])])).kind, .int .u64 (Nd.mk 3 Nd.zero 0 0 ([(Nd.mk 6 Nd.zero 0 0 [A]), (Nd.mk 6 Nd.zero 0 0 [bad]), (Nd.mk 6 Nd.zero 0 0 [B])])).set.a, .int .u64 (Nd.mk 3 Nd.zero 0 0 ([(Nd.mk 6 Nd.zero 0 0 [A]), (Nd.mk 6 Nd.zero 0 0 [bad]), (Nd.mk 6 Nd.zero 0 0 [B])])).set.b, .int .u64 (Nd.mk 3 Nd.zero 0 0 ([(Nd.mk 6 Nd.zero 0 0 [A]), (Nd.mk 6 Nd.zero 0 0 [bad]), (Nd.mk 6 Nd.zero 0 0 [B])])).set.c, .int .u64 (Nd.mk 3 Nd.zero 0 0 ([(Nd.mk 6 Nd.zero 0 0 [A]), (Nd.mk 6 Nd.zero 0 0 [bad]), (Nd.mk 6 Nd.zero 0 0 [B])])).set.d, .int .i64 (Nd.mk 3 Nd.zero 0 0 ([(Nd.mk 6 Nd.zero 0 0 [A]), (Nd.mk 6 Nd.zero 0 0 [bad]), (Nd.mk 6 Nd.zero 0 0 [B])])).least, .int .i64 (Nd.mk 3 Nd.zero 0 0 ([(Nd.mk 6 Nd.zero 0 0 [A]), (Nd.mk 6 Nd.zero 0 0 [bad]), (Nd.mk 6 Nd.zero 0 0 [B])])).most, .slice a1871 (Nd.mk 3 Nd.zero 0 0 ([(Nd.mk 6 Nd.zero 0 0 [A]), (Nd.mk 6 Nd.zero 0 0 [bad]), (Nd.mk 6 Nd.zero 0 0 [B])])).subs.length cap1871]) rfl rfl Ty.slice27 Ty.zero29 rfl rfl rfl rfl rfl rfl (fun b3196 w3201 hb3197 hE3200 hs3198 hR3199 => ?_)
    have hts3196 := (NodesV.lit (n := 2) (ts := [A, (Nd.mk 3 Nd.zero 0 0 ([(Nd.mk 6 Nd.zero 0 0 [A]), (Nd.mk 6 Nd.zero 0 0 [bad]), (Nd.mk 6 Nd.zero 0 0 [B])]))]) hR3199 (RowsL.cons ((h1886.ext hE1).ext hE3200) (RowsL.cons ((h1884.ext hE1).ext hE3200) (RowsL.nil' _))) rfl rfl (by decide)).lt
    refine WL.nil (fun a_ ha => ?_)
    exact ⟨_, β, ha, hE3200, BExt.refl _ _, hbi.ext hE3200, ⟨_, _, rfl, (hts3196.dom (by intro k h1; refine ⟨trivial, ?_, h1.2⟩; replace h1 := h1.1; intro x hxm; have hi := hbi.hi x hxm; have lo := hbi.lo x hxm; (try dsimp only at h1); (repeat' first | (guard_hyp h1 : _ ∨ _; refine Or.elim h1 (fun h1 => ?_) (fun h1 => ?_)) | (guard_hyp h1 : _ ∧ _; have hx := h1.2; replace h1 := h1.1)) <;> first | contradiction | omega | exact hx.1 x hxm))⟩⟩
  · intro σ β w1 hE1 hbi hk
    have hz1 := hE1.size
    obtain ⟨_, hv3294, a3294, cap3294, rfl, hts3294⟩ := hk 2 (by kernel_rfl) _ _ rfl rfl
    have hts3294 := hts3294.lt
    have hlen3294 := hts3294.len
    refine ⟨[(90, .slice a3294 (([A, (Nd.mk 3 Nd.zero 0 0 ([(Nd.mk 6 Nd.zero 0 0 [A]), (Nd.mk 6 Nd.zero 0 0 [bad]), (Nd.mk 6 Nd.zero 0 0 [B])]))]).length) cap3294)], (agree_cons (look_right rfl hv3294) (agree_nil _)), ?_⟩
    refine WL.call rfl rfl rfl Ty.ent10 (seq_ok _ _ _ _ ([A, (Nd.mk 3 Nd.zero 0 0 ([(Nd.mk 6 Nd.zero 0 0 [A]), (Nd.mk 6 Nd.zero 0 0 [bad]), (Nd.mk 6 Nd.zero 0 0 [B])]))]) hts3294 (Nat.le_of_ble_eq_true rfl)) ?_
    rintro _ w3297 ⟨l3295, rfl, hr3295, hE3296⟩
    have hzhE3296 := hE3296.size
    refine ⟨_, rfl, ?_⟩
    have hn3295 := hr3295.lt
    obtain ⟨sl3295, rfl, hts3295⟩ := hn3295.opn
    obtain ⟨a3295, cap3295, rfl, hlen3295, -⟩ := hts3295.get
    refine WL.nil (fun a_ ha => ?_)
    exact ⟨_, β, ha, hE3296, BExt.refl _ _, hbi.ext hE3296, ⟨_, rfl, (hr3295.off0 hbi (fun k hk => Nat.le_trans hE1.size hk))⟩⟩
  · intro σ β w1 hE1 hbi hk
    have hz1 := hE1.size
    refine ⟨[], (agree_nil _), ?_⟩
    refine WL.load_box rfl rfl rfl (h1893.ext hE1) Ty.agg29 ?_
    refine WL.nil (fun a_ ha => ?_)
    exact ⟨_, β, ha, (Ext.refl _), BExt.refl _ _, hbi.ext (Ext.refl _), rfl⟩
  · intro σ β w1 hE1 hbi hk
    have hz1 := hE1.size
    refine ⟨[], (agree_nil _), ?_⟩
    refine WL.load_box rfl rfl rfl (h1887.ext hE1) Ty.agg29 ?_
    refine WL.nil (fun a_ ha => ?_)
    exact ⟨_, β, ha, (Ext.refl _), BExt.refl _ _, hbi.ext (Ext.refl _), rfl⟩
  · intro σ β w1 hE1 hbi hk
    have hz1 := hE1.size
    obtain ⟨_, hv3594, rfl⟩ := hk 4 (by kernel_rfl) _ _ rfl rfl
    obtain ⟨_, hv3595, rfl⟩ := hk 5 (by kernel_rfl) _ _ rfl rfl
    refine ⟨[(92, .agg #[.int .u8 (Nd.mk 3 Nd.zero 0 0 ([(Nd.mk 6 Nd.zero 0 0 [A]), (Nd.mk 6 Nd.zero 0 0 [bad]), (Nd.mk 6 Nd.zero 0 0 [B])])).kind, .int .u64 (Nd.mk 3 Nd.zero 0 0 ([(Nd.mk 6 Nd.zero 0 0 [A]), (Nd.mk 6 Nd.zero 0 0 [bad]), (Nd.mk 6 Nd.zero 0 0 [B])])).set.a, .int .u64 (Nd.mk 3 Nd.zero 0 0 ([(Nd.mk 6 Nd.zero 0 0 [A]), (Nd.mk 6 Nd.zero 0 0 [bad]), (Nd.mk 6 Nd.zero 0 0 [B])])).set.b, .int .u64 (Nd.mk 3 Nd.zero 0 0 ([(Nd.mk 6 Nd.zero 0 0 [A]), (Nd.mk 6 Nd.zero 0 0 [bad]), (Nd.mk 6 Nd.zero 0 0 [B])])).set.c, .int .u64 (Nd.mk 3 Nd.zero 0 0 ([(Nd.mk 6 Nd.zero 0 0 [A]), (Nd.mk 6 Nd.zero 0 0 [bad]), (Nd.mk 6 Nd.zero 0 0 [B])])).set.d, .int .i64 (Nd.mk 3 Nd.zero 0 0 ([(Nd.mk 6 Nd.zero 0 0 [A]), (Nd.mk 6 Nd.zero 0 0 [bad]), (Nd.mk 6 Nd.zero 0 0 [B])])).least, .int .i64 (Nd.mk 3 Nd.zero 0 0 ([(Nd.mk 6 Nd.zero 0 0 [A]), (Nd.mk 6 Nd.zero 0 0 [bad]), (Nd.mk 6 Nd.zero 0 0 [B])])).most, .slice a1871 (Nd.mk 3 Nd.zero 0 0 ([(Nd.mk 6 Nd.zero 0 0 [A]), (Nd.mk 6 Nd.zero 0 0 [bad]), (Nd.mk 6 Nd.zero 0 0 [B])])).subs.length cap1871]), (93, .agg #[.int .u8 B.kind, .int .u64 B.set.a, .int .u64 B.set.b, .int .u64 B.set.c, .int .u64 B.set.d, .int .i64 B.least, .int .i64 B.most, .slice a6 B.subs.length cap6])], (agree_cons (look_right rfl hv3594) (agree_cons (look_right rfl hv3595) (agree_nil _))), ?_⟩
    refine WL.buildSlice (vs := [.agg #[.int .u8 (Nd.mk 3 Nd.zero 0 0 ([(Nd.mk 6 Nd.zero 0 0 [A]), (Nd.mk 6 Nd.zero 0 0 [bad]), (Nd.mk 6 Nd.zero 0 0 [B])])).kind, .int .u64 (Nd.mk 3 Nd.zero 0 0 ([(Nd.mk 6 Nd.zero 0 0 [A]), (Nd.mk 6 Nd.zero 0 0 [bad]), (Nd.mk 6 Nd.zero 0 0 [B])])).set.a, .int .u64 (Nd.mk 3 Nd.zero 0 0 ([(Nd.mk 6 Nd.zero 0 0 [A]), (Nd.mk 6 Nd.zero 0 0 [bad]), (Nd.mk 6 Nd.zero 0 0 [B])])).set.b, .int .u64 (Nd.mk 3 Nd.zero 0 0 ([(Nd.mk 6 Nd.zero 0 0 [A]), (Nd.mk 6 Nd.zero 0 0 [bad]), (Nd.mk 6 Nd.zero 0 0 [B])])).set.c, .int .u64 (Nd.mk 3 Nd.zero 0 0 ([(Nd.mk 6 Nd.zero 0 0 [A]), (Nd.mk 6 Nd.zero 0 0 [bad]), (Nd.mk 6 Nd.zero 0 0 [B])])).set.d, .int .i64 (Nd.mk 3 Nd.zero 0 0 ([(Nd.mk 6 Nd.zero 0 0 [A]), (Nd.mk 6 Nd.zero 0 0 [bad]), (Nd.mk 6 Nd.zero 0 0 [B])])).least, .int .i64 (Nd.mk 3 Nd.zero 0 0 ([(Nd.mk 6 Nd.zero 0 0 [A]), (Nd.mk 6 Nd.zero 0 0 [bad]), (Nd.mk 6 Nd.zero 0 0 [B])])).most, .slice a1871 (Nd.mk 3 Nd.zero 0 0 ([(Nd.mk 6 Nd.zero 0 0 [A]), (Nd.mk 6 Nd.zero 0 0 [bad]), (Nd.mk 6 Nd.zero 0 0 [B])])).subs.length cap1871], .agg #[.int .u8 B.kind, .int .u64 B.set.a, .int .u64 B.set.b, .int .u64 B.set.c, .int .u64 B.set.d, .int .i64 B.least, .int .i64 B.most, .slice a6 B.subs.length cap6]]) (cells := [.int .u8 (Nd.mk 3 Nd.zero 0 0 ([(Nd.mk 6 Nd.zero 0 0 [A]), (Nd.mk 6 Nd.zero 0 0 [bad]), (Nd.mk 6 Nd.zero 0 0 [B])])).kind, .int .u64 (Nd.mk 3 Nd.zero 0 0 ([(Nd.mk 6 Nd.zero 0 0 [A]), (Nd.mk 6 Nd.zero 0 0 [bad]), (Nd.mk 6 Nd.zero 0 0 [B])])).set.a, .int .u64 (Nd.mk 3 Nd.zero 0 0 ([(Nd.mk 6 Nd.zero 0 0 [A]), (Nd.mk 6 Nd.zero 0 0 [bad]), (Nd.mk 6 Nd.zero 0 0 [B])])).set.b, .int .u64 (Nd.mk 3 Nd.zero 0 0 ([(Nd.mk 6 Nd.zero 0 0 [A]), (Nd.mk 6 Nd.zero 0 0 [bad]), (Nd.mk 6 Nd.zero 0 0 [B])])).set.c, .int .u64 (Nd.mk 3 Nd.zero 0 0 ([(Nd.mk 6 Nd.zero 0 0 [A]), (Nd.mk 6 Nd.zero 0 0 [bad]), (Nd.mk 6 Nd.zero 0 0 [B])])).set.d, .int .i64 (Nd.mk 3 Nd.zero 0 0 ([(Nd.mk 6 Nd.zero 0 0 [A]), (Nd.mk 6 Nd.zero 0 0 [bad]), (Nd.mk 6 Nd.zero 0 0 [B])])).least, .int .i64 (Nd.mk 3 Nd.zero 0 0 ([(Nd.mk 6 Nd.zero 0 0 [A]), (Nd.mk 6 Nd.zero 0 0 [bad]), (Nd.mk 6 Nd.zero 0 0 [B])])).most, .slice a1871 (Nd.mk 3 Nd.zero 0 0 ([(Nd.mk 6 Nd.zero 0 0 [A]), (Nd.mk 6 Nd.zero 0 0 [bad]), (Nd.mk 6 Nd.zero 0 0 [B])])).subs.length cap1871, .int .u8 B.kind, .int .u64 B.set.a, .int .u64 B.set.b, .int .u64 B.set.c, .int .u64 B.set.d, .int .i64 B.least, .int .i64 B.most, .slice a6 B.subs.length cap6]) rfl rfl Ty.slice27 Ty.zero29 rfl rfl rfl rfl rfl rfl (fun b3596 w3601 hb3597 hE3600 hs3598 hR3599 => ?_)
    have hts3596 := (NodesV.lit (n := 2) (ts := [(Nd.mk 3 Nd.zero 0 0 ([(Nd.mk 6 Nd.zero 0 0 [A]), (Nd.mk 6 Nd.zero 0 0 [bad]), (Nd.mk 6 Nd.zero 0 0 [B])])), B]) hR3599 (RowsL.cons ((h1884.ext hE1).ext hE3600) (RowsL.cons ((h1888.ext hE1).ext hE3600) (RowsL.nil' _))) rfl rfl (by decide)).lt
    refine WL.nil (fun a_ ha => ?_)
    exact ⟨_, β, ha, hE3600, BExt.refl _ _, hbi.ext hE3600, ⟨_, _, rfl, (hts3596.dom (by intro k h1; refine ⟨trivial, ?_, h1.2⟩; replace h1 := h1.1; intro x hxm; have hi := hbi.hi x hxm; have lo := hbi.lo x hxm; (try dsimp only at h1); (repeat' first | (guard_hyp h1 : _ ∨ _; refine Or.elim h1 (fun h1 => ?_) (fun h1 => ?_)) | (guard_hyp h1 : _ ∧ _; have hx := h1.2; replace h1 := h1.1)) <;> first | contradiction | omega | exact hx.1 x hxm))⟩⟩
  · intro σ β w1 hE1 hbi hk
    have hz1 := hE1.size
    obtain ⟨_, hv3694, a3694, cap3694, rfl, hts3694⟩ := hk 6 (by kernel_rfl) _ _ rfl rfl
    have hts3694 := hts3694.lt
    have hlen3694 := hts3694.len
    refine ⟨[(94, .slice a3694 (([(Nd.mk 3 Nd.zero 0 0 ([(Nd.mk 6 Nd.zero 0 0 [A]), (Nd.mk 6 Nd.zero 0 0 [bad]), (Nd.mk 6 Nd.zero 0 0 [B])])), B]).length) cap3694)], (agree_cons (look_right rfl hv3694) (agree_nil _)), ?_⟩
    refine WL.call rfl rfl rfl Ty.ent11 (or_ok _ _ _ _ ([(Nd.mk 3 Nd.zero 0 0 ([(Nd.mk 6 Nd.zero 0 0 [A]), (Nd.mk 6 Nd.zero 0 0 [bad]), (Nd.mk 6 Nd.zero 0 0 [B])])), B]) hts3694 (Nat.le_of_ble_eq_true rfl)) ?_
    rintro _ w3697 ⟨l3695, rfl, hr3695, hE3696⟩
    have hzhE3696 := hE3696.size
    refine ⟨_, rfl, ?_⟩
    have hn3695 := hr3695.lt
    obtain ⟨sl3695, rfl, hts3695⟩ := hn3695.opn
    obtain ⟨a3695, cap3695, rfl, hlen3695, -⟩ := hts3695.get
    refine WL.nil (fun a_ ha => ?_)
    exact ⟨_, β, ha, hE3696, BExt.refl _ _, hbi.ext hE3696, ⟨_, rfl, (hr3695.off0 hbi (fun k hk => Nat.le_trans hE1.size hk))⟩⟩
  · intro σ β w1 hE1 hbi hk
    have hz1 := hE1.size
    refine ⟨[], (agree_nil _), ?_⟩
    refine WL.load_box rfl rfl rfl (h1893.ext hE1) Ty.agg29 ?_
    refine WL.nil (fun a_ ha => ?_)
    exact ⟨_, β, ha, (Ext.refl _), BExt.refl _ _, hbi.ext (Ext.refl _), rfl⟩
  · intro σ β w1 hE1 hbi hk
    have hz1 := hE1.size
    obtain ⟨_, hv3894, rfl⟩ := hk 8 (by kernel_rfl) _ _ rfl rfl
    refine ⟨[(96, .agg #[.int .u8 (Nd.mk 3 Nd.zero 0 0 ([(Nd.mk 6 Nd.zero 0 0 [A]), (Nd.mk 6 Nd.zero 0 0 [bad]), (Nd.mk 6 Nd.zero 0 0 [B])])).kind, .int .u64 (Nd.mk 3 Nd.zero 0 0 ([(Nd.mk 6 Nd.zero 0 0 [A]), (Nd.mk 6 Nd.zero 0 0 [bad]), (Nd.mk 6 Nd.zero 0 0 [B])])).set.a, .int .u64 (Nd.mk 3 Nd.zero 0 0 ([(Nd.mk 6 Nd.zero 0 0 [A]), (Nd.mk 6 Nd.zero 0 0 [bad]), (Nd.mk 6 Nd.zero 0 0 [B])])).set.b, .int .u64 (Nd.mk 3 Nd.zero 0 0 ([(Nd.mk 6 Nd.zero 0 0 [A]), (Nd.mk 6 Nd.zero 0 0 [bad]), (Nd.mk 6 Nd.zero 0 0 [B])])).set.c, .int .u64 (Nd.mk 3 Nd.zero 0 0 ([(Nd.mk 6 Nd.zero 0 0 [A]), (Nd.mk 6 Nd.zero 0 0 [bad]), (Nd.mk 6 Nd.zero 0 0 [B])])).set.d, .int .i64 (Nd.mk 3 Nd.zero 0 0 ([(Nd.mk 6 Nd.zero 0 0 [A]), (Nd.mk 6 Nd.zero 0 0 [bad]), (Nd.mk 6 Nd.zero 0 0 [B])])).least, .int .i64 (Nd.mk 3 Nd.zero 0 0 ([(Nd.mk 6 Nd.zero 0 0 [A]), (Nd.mk 6 Nd.zero 0 0 [bad]), (Nd.mk 6 Nd.zero 0 0 [B])])).most, .slice a1871 (Nd.mk 3 Nd.zero 0 0 ([(Nd.mk 6 Nd.zero 0 0 [A]), (Nd.mk 6 Nd.zero 0 0 [bad]), (Nd.mk 6 Nd.zero 0 0 [B])])).subs.length cap1871])], (agree_cons (look_right rfl hv3894) (agree_nil _)), ?_⟩
    refine WL.call rfl rfl rfl Ty.ent19 (times_ok _ _ _ (Nd.mk 3 Nd.zero 0 0 ([(Nd.mk 6 Nd.zero 0 0 [A]), (Nd.mk 6 Nd.zero 0 0 [bad]), (Nd.mk 6 Nd.zero 0 0 [B])])) 0 (-1) (h1884.ext hE1)) ?_
    rintro _ w3897 ⟨l3895, rfl, hr3895, hE3896⟩
    have hzhE3896 := hE3896.size
    refine ⟨_, rfl, ?_⟩
    have hn3895 := hr3895.lt
    obtain ⟨sl3895, rfl, hts3895⟩ := hn3895.opn
    obtain ⟨a3895, cap3895, rfl, hlen3895, -⟩ := hts3895.get
    refine WL.nil (fun a_ ha => ?_)
    exact ⟨_, β, ha, hE3896, BExt.refl _ _, hbi.ext hE3896, ⟨_, rfl, (hr3895.off0 hbi (fun k hk => Nat.le_trans hE1.size hk))⟩⟩
  · intro σ β w1 hE1 hbi hk
    have hz1 := hE1.size
    refine ⟨[], (agree_nil _), ?_⟩
    refine WL.load_box rfl rfl rfl (h1893.ext hE1) Ty.agg29 ?_
    refine WL.nil (fun a_ ha => ?_)
    exact ⟨_, β, ha, (Ext.refl _), BExt.refl _ _, hbi.ext (Ext.refl _), rfl⟩
  · intro σ β w1 hE1 hbi hk
    have hz1 := hE1.size
    obtain ⟨_, hv4094, rfl⟩ := hk 10 (by kernel_rfl) _ _ rfl rfl
    refine ⟨[(98, .agg #[.int .u8 (Nd.mk 3 Nd.zero 0 0 ([(Nd.mk 6 Nd.zero 0 0 [A]), (Nd.mk 6 Nd.zero 0 0 [bad]), (Nd.mk 6 Nd.zero 0 0 [B])])).kind, .int .u64 (Nd.mk 3 Nd.zero 0 0 ([(Nd.mk 6 Nd.zero 0 0 [A]), (Nd.mk 6 Nd.zero 0 0 [bad]), (Nd.mk 6 Nd.zero 0 0 [B])])).set.a, .int .u64 (Nd.mk 3 Nd.zero 0 0 ([(Nd.mk 6 Nd.zero 0 0 [A]), (Nd.mk 6 Nd.zero 0 0 [bad]), (Nd.mk 6 Nd.zero 0 0 [B])])).set.b, .int .u64 (Nd.mk 3 Nd.zero 0 0 ([(Nd.mk 6 Nd.zero 0 0 [A]), (Nd.mk 6 Nd.zero 0 0 [bad]), (Nd.mk 6 Nd.zero 0 0 [B])])).set.c, .int .u64 (Nd.mk 3 Nd.zero 0 0 ([(Nd.mk 6 Nd.zero 0 0 [A]), (Nd.mk 6 Nd.zero 0 0 [bad]), (Nd.mk 6 Nd.zero 0 0 [B])])).set.d, .int .i64 (Nd.mk 3 Nd.zero 0 0 ([(Nd.mk 6 Nd.zero 0 0 [A]), (Nd.mk 6 Nd.zero 0 0 [bad]), (Nd.mk 6 Nd.zero 0 0 [B])])).least, .int .i64 (Nd.mk 3 Nd.zero 0 0 ([(Nd.mk 6 Nd.zero 0 0 [A]), (Nd.mk 6 Nd.zero 0 0 [bad]), (Nd.mk 6 Nd.zero 0 0 [B])])).most, .slice a1871 (Nd.mk 3 Nd.zero 0 0 ([(Nd.mk 6 Nd.zero 0 0 [A]), (Nd.mk 6 Nd.zero 0 0 [bad]), (Nd.mk 6 Nd.zero 0 0 [B])])).subs.length cap1871])], (agree_cons (look_right rfl hv4094) (agree_nil _)), ?_⟩
    refine WL.call rfl rfl rfl Ty.ent25 (capture_ok _ _ _ (Nd.mk 3 Nd.zero 0 0 ([(Nd.mk 6 Nd.zero 0 0 [A]), (Nd.mk 6 Nd.zero 0 0 [bad]), (Nd.mk 6 Nd.zero 0 0 [B])])) (h1884.ext hE1)) ?_
    rintro _ w4097 ⟨l4095, rfl, hr4095, hE4096⟩
    have hzhE4096 := hE4096.size
    refine ⟨_, rfl, ?_⟩
    have hn4095 := hr4095.lt
    obtain ⟨sl4095, rfl, hts4095⟩ := hn4095.opn
    obtain ⟨a4095, cap4095, rfl, hlen4095, -⟩ := hts4095.get
    refine WL.nil (fun a_ ha => ?_)
    exact ⟨_, β, ha, hE4096, BExt.refl _ _, hbi.ext hE4096, ⟨_, rfl, (hr4095.off0 hbi (fun k hk => Nat.le_trans hE1.size hk))⟩⟩
  · intro σ β w1 hE1 hbi hk
    have hz1 := hE1.size
    refine ⟨[], (agree_nil _), ?_⟩
    have h4194 := ((h1880.ext hE1882).ext hE1)
    refine WL.load_box rfl rfl rfl h4194 Ty.agg29 ?_
    refine WL.nil (fun a_ ha => ?_)
    exact ⟨_, β, ha, (Ext.refl _), BExt.refl _ _, hbi.ext (Ext.refl _), rfl⟩
  · intro σ β w1 hE1 hbi hk
    have hz1 := hE1.size
    obtain ⟨_, hv4294, rfl⟩ := hk 12 (by kernel_rfl) _ _ rfl rfl
    refine ⟨[(100, .agg #[.int .u8 bad.kind, .int .u64 bad.set.a, .int .u64 bad.set.b, .int .u64 bad.set.c, .int .u64 bad.set.d, .int .i64 bad.least, .int .i64 bad.most, .slice a958 bad.subs.length cap958])], (agree_cons (look_right rfl hv4294) (agree_nil _)), ?_⟩
    have h4295 := ((h1881.ext hE1882).ext hE1)
    refine WL.call rfl rfl rfl Ty.ent25 (capture_ok _ _ _ bad h4295) ?_
    rintro _ w4298 ⟨l4296, rfl, hr4296, hE4297⟩
    have hzhE4297 := hE4297.size
    refine ⟨_, rfl, ?_⟩
    have hn4296 := hr4296.lt
    obtain ⟨sl4296, rfl, hts4296⟩ := hn4296.opn
    obtain ⟨a4296, cap4296, rfl, hlen4296, -⟩ := hts4296.get
    refine WL.nil (fun a_ ha => ?_)
    exact ⟨_, β, ha, hE4297, BExt.refl _ _, hbi.ext hE4297, ⟨_, rfl, (hr4296.off0 hbi (fun k hk => Nat.le_trans hE1.size hk))⟩⟩
  · intro σ β w1 hE1 hbi hk
    have hz1 := hE1.size
    refine ⟨[], (agree_nil _), ?_⟩
    have h4394 := ((h1880.ext hE1882).ext hE1)
    refine WL.load_box rfl rfl rfl h4394 Ty.agg29 ?_
    refine WL.nil (fun a_ ha => ?_)
    exact ⟨_, β, ha, (Ext.refl _), BExt.refl _ _, hbi.ext (Ext.refl _), rfl⟩
  · intro σ β w1 hE1 hbi hk
    have hz1 := hE1.size
    obtain ⟨_, hv4494, rfl⟩ := hk 14 (by kernel_rfl) _ _ rfl rfl
    refine ⟨[(102, .agg #[.int .u8 bad.kind, .int .u64 bad.set.a, .int .u64 bad.set.b, .int .u64 bad.set.c, .int .u64 bad.set.d, .int .i64 bad.least, .int .i64 bad.most, .slice a958 bad.subs.length cap958])], (agree_cons (look_right rfl hv4494) (agree_nil _)), ?_⟩
    have h4495 := ((h1881.ext hE1882).ext hE1)
    refine WL.buildSlice (vs := [.agg #[.int .u8 bad.kind, .int .u64 bad.set.a, .int .u64 bad.set.b, .int .u64 bad.set.c, .int .u64 bad.set.d, .int .i64 bad.least, .int .i64 bad.most, .slice a958 bad.subs.length cap958]]) (cells := [.int .u8 bad.kind, .int .u64 bad.set.a, .int .u64 bad.set.b, .int .u64 bad.set.c, .int .u64 bad.set.d, .int .i64 bad.least, .int .i64 bad.most, .slice a958 bad.subs.length cap958]) rfl rfl Ty.slice27 Ty.zero29 rfl rfl rfl rfl rfl rfl (fun b4496 w4501 hb4497 hE4500 hs4498 hR4499 => ?_)
    have hts4496 := (NodesV.lit (n := 1) (ts := [bad]) hR4499 (RowsL.cons (h4495.ext hE4500) (RowsL.nil' _)) rfl rfl (by decide)).lt
    refine WL.nil (fun a_ ha => ?_)
    exact ⟨_, β, ha, hE4500, BExt.refl _ _, hbi.ext hE4500, ⟨_, _, rfl, (hts4496.dom (by intro k h1; refine ⟨trivial, ?_, h1.2⟩; replace h1 := h1.1; intro x hxm; have hi := hbi.hi x hxm; have lo := hbi.lo x hxm; (try dsimp only at h1); (repeat' first | (guard_hyp h1 : _ ∨ _; refine Or.elim h1 (fun h1 => ?_) (fun h1 => ?_)) | (guard_hyp h1 : _ ∧ _; have hx := h1.2; replace h1 := h1.1)) <;> first | contradiction | omega | exact hx.1 x hxm))⟩⟩
  · intro σ β w1 hE1 hbi hk
    have hz1 := hE1.size
    obtain ⟨_, hv4594, a4594, cap4594, rfl, hts4594⟩ := hk 15 (by kernel_rfl) _ _ rfl rfl
    have hts4594 := hts4594.lt
    have hlen4594 := hts4594.len
    refine ⟨[(103, .slice a4594 (([bad]).length) cap4594)], (agree_cons (look_right rfl hv4594) (agree_nil _)), ?_⟩
    refine WL.call rfl rfl rfl Ty.ent10 (seq_ok _ _ _ _ ([bad]) hts4594 (Nat.le_of_ble_eq_true rfl)) ?_
    rintro _ w4597 ⟨l4595, rfl, hr4595, hE4596⟩
    have hzhE4596 := hE4596.size
    refine ⟨_, rfl, ?_⟩
    have hn4595 := hr4595.lt
    obtain ⟨sl4595, rfl, hts4595⟩ := hn4595.opn
    obtain ⟨a4595, cap4595, rfl, hlen4595, -⟩ := hts4595.get
    refine WL.nil (fun a_ ha => ?_)
    exact ⟨_, β, ha, hE4596, BExt.refl _ _, hbi.ext hE4596, ⟨_, rfl, (hr4595.off0 hbi (fun k hk => Nat.le_trans hE1.size hk))⟩⟩
  · intro σ β w1 hE1 hbi hk
    have hz1 := hE1.size
    obtain ⟨_, hv4694, l4694, rfl, hn4694⟩ := hk 3 (by kernel_rfl) _ _ rfl rfl
    have hn4694 := hn4694.lt
    obtain ⟨sl4694, rfl, hts4694⟩ := hn4694.opn
    obtain ⟨a4694, cap4694, rfl, hlen4694, -⟩ := hts4694.get
    obtain ⟨_, hv4695, l4695, rfl, hn4695⟩ := hk 7 (by kernel_rfl) _ _ rfl rfl
    have hn4695 := hn4695.lt
    obtain ⟨sl4695, rfl, hts4695⟩ := hn4695.opn
    obtain ⟨a4695, cap4695, rfl, hlen4695, -⟩ := hts4695.get
    obtain ⟨_, hv4696, l4696, rfl, hn4696⟩ := hk 9 (by kernel_rfl) _ _ rfl rfl
    have hn4696 := hn4696.lt
    obtain ⟨sl4696, rfl, hts4696⟩ := hn4696.opn
    obtain ⟨a4696, cap4696, rfl, hlen4696, -⟩ := hts4696.get
    obtain ⟨_, hv4697, l4697, rfl, hn4697⟩ := hk 11 (by kernel_rfl) _ _ rfl rfl
    have hn4697 := hn4697.lt
    obtain ⟨sl4697, rfl, hts4697⟩ := hn4697.opn
    obtain ⟨a4697, cap4697, rfl, hlen4697, -⟩ := hts4697.get
    obtain ⟨_, hv4698, l4698, rfl, hn4698⟩ := hk 13 (by kernel_rfl) _ _ rfl rfl
    have hn4698 := hn4698.lt
    obtain ⟨sl4698, rfl, hts4698⟩ := hn4698.opn
    obtain ⟨a4698, cap4698, rfl, hlen4698, -⟩ := hts4698.get
    obtain ⟨_, hv4699, l4699, rfl, hn4699⟩ := hk 16 (by kernel_rfl) _ _ rfl rfl
    have hn4699 := hn4699.lt
    obtain ⟨sl4699, rfl, hts4699⟩ := hn4699.opn
    obtain ⟨a4699, cap4699, rfl, hlen4699, -⟩ := hts4699.get
    refine ⟨[(91, .agg #[.int .u8 (Nd.seq ([A, (Nd.mk 3 Nd.zero 0 0 ([(Nd.mk 6 Nd.zero 0 0 [A]), (Nd.mk 6 Nd.zero 0 0 [bad]), (Nd.mk 6 Nd.zero 0 0 [B])]))])).kind, .int .u64 (Nd.seq ([A, (Nd.mk 3 Nd.zero 0 0 ([(Nd.mk 6 Nd.zero 0 0 [A]), (Nd.mk 6 Nd.zero 0 0 [bad]), (Nd.mk 6 Nd.zero 0 0 [B])]))])).set.a, .int .u64 (Nd.seq ([A, (Nd.mk 3 Nd.zero 0 0 ([(Nd.mk 6 Nd.zero 0 0 [A]), (Nd.mk 6 Nd.zero 0 0 [bad]), (Nd.mk 6 Nd.zero 0 0 [B])]))])).set.b, .int .u64 (Nd.seq ([A, (Nd.mk 3 Nd.zero 0 0 ([(Nd.mk 6 Nd.zero 0 0 [A]), (Nd.mk 6 Nd.zero 0 0 [bad]), (Nd.mk 6 Nd.zero 0 0 [B])]))])).set.c, .int .u64 (Nd.seq ([A, (Nd.mk 3 Nd.zero 0 0 ([(Nd.mk 6 Nd.zero 0 0 [A]), (Nd.mk 6 Nd.zero 0 0 [bad]), (Nd.mk 6 Nd.zero 0 0 [B])]))])).set.d, .int .i64 (Nd.seq ([A, (Nd.mk 3 Nd.zero 0 0 ([(Nd.mk 6 Nd.zero 0 0 [A]), (Nd.mk 6 Nd.zero 0 0 [bad]), (Nd.mk 6 Nd.zero 0 0 [B])]))])).least, .int .i64 (Nd.seq ([A, (Nd.mk 3 Nd.zero 0 0 ([(Nd.mk 6 Nd.zero 0 0 [A]), (Nd.mk 6 Nd.zero 0 0 [bad]), (Nd.mk 6 Nd.zero 0 0 [B])]))])).most, .slice a4694 (Nd.seq ([A, (Nd.mk 3 Nd.zero 0 0 ([(Nd.mk 6 Nd.zero 0 0 [A]), (Nd.mk 6 Nd.zero 0 0 [bad]), (Nd.mk 6 Nd.zero 0 0 [B])]))])).subs.length cap4694]), (95, .agg #[.int .u8 (Nd.or ([(Nd.mk 3 Nd.zero 0 0 ([(Nd.mk 6 Nd.zero 0 0 [A]), (Nd.mk 6 Nd.zero 0 0 [bad]), (Nd.mk 6 Nd.zero 0 0 [B])])), B])).kind, .int .u64 (Nd.or ([(Nd.mk 3 Nd.zero 0 0 ([(Nd.mk 6 Nd.zero 0 0 [A]), (Nd.mk 6 Nd.zero 0 0 [bad]), (Nd.mk 6 Nd.zero 0 0 [B])])), B])).set.a, .int .u64 (Nd.or ([(Nd.mk 3 Nd.zero 0 0 ([(Nd.mk 6 Nd.zero 0 0 [A]), (Nd.mk 6 Nd.zero 0 0 [bad]), (Nd.mk 6 Nd.zero 0 0 [B])])), B])).set.b, .int .u64 (Nd.or ([(Nd.mk 3 Nd.zero 0 0 ([(Nd.mk 6 Nd.zero 0 0 [A]), (Nd.mk 6 Nd.zero 0 0 [bad]), (Nd.mk 6 Nd.zero 0 0 [B])])), B])).set.c, .int .u64 (Nd.or ([(Nd.mk 3 Nd.zero 0 0 ([(Nd.mk 6 Nd.zero 0 0 [A]), (Nd.mk 6 Nd.zero 0 0 [bad]), (Nd.mk 6 Nd.zero 0 0 [B])])), B])).set.d, .int .i64 (Nd.or ([(Nd.mk 3 Nd.zero 0 0 ([(Nd.mk 6 Nd.zero 0 0 [A]), (Nd.mk 6 Nd.zero 0 0 [bad]), (Nd.mk 6 Nd.zero 0 0 [B])])), B])).least, .int .i64 (Nd.or ([(Nd.mk 3 Nd.zero 0 0 ([(Nd.mk 6 Nd.zero 0 0 [A]), (Nd.mk 6 Nd.zero 0 0 [bad]), (Nd.mk 6 Nd.zero 0 0 [B])])), B])).most, .slice a4695 (Nd.or ([(Nd.mk 3 Nd.zero 0 0 ([(Nd.mk 6 Nd.zero 0 0 [A]), (Nd.mk 6 Nd.zero 0 0 [bad]), (Nd.mk 6 Nd.zero 0 0 [B])])), B])).subs.length cap4695]), (97, .agg #[.int .u8 (Nd.times (Nd.mk 3 Nd.zero 0 0 ([(Nd.mk 6 Nd.zero 0 0 [A]), (Nd.mk 6 Nd.zero 0 0 [bad]), (Nd.mk 6 Nd.zero 0 0 [B])])) 0 (-1)).kind, .int .u64 (Nd.times (Nd.mk 3 Nd.zero 0 0 ([(Nd.mk 6 Nd.zero 0 0 [A]), (Nd.mk 6 Nd.zero 0 0 [bad]), (Nd.mk 6 Nd.zero 0 0 [B])])) 0 (-1)).set.a, .int .u64 (Nd.times (Nd.mk 3 Nd.zero 0 0 ([(Nd.mk 6 Nd.zero 0 0 [A]), (Nd.mk 6 Nd.zero 0 0 [bad]), (Nd.mk 6 Nd.zero 0 0 [B])])) 0 (-1)).set.b, .int .u64 (Nd.times (Nd.mk 3 Nd.zero 0 0 ([(Nd.mk 6 Nd.zero 0 0 [A]), (Nd.mk 6 Nd.zero 0 0 [bad]), (Nd.mk 6 Nd.zero 0 0 [B])])) 0 (-1)).set.c, .int .u64 (Nd.times (Nd.mk 3 Nd.zero 0 0 ([(Nd.mk 6 Nd.zero 0 0 [A]), (Nd.mk 6 Nd.zero 0 0 [bad]), (Nd.mk 6 Nd.zero 0 0 [B])])) 0 (-1)).set.d, .int .i64 (Nd.times (Nd.mk 3 Nd.zero 0 0 ([(Nd.mk 6 Nd.zero 0 0 [A]), (Nd.mk 6 Nd.zero 0 0 [bad]), (Nd.mk 6 Nd.zero 0 0 [B])])) 0 (-1)).least, .int .i64 (Nd.times (Nd.mk 3 Nd.zero 0 0 ([(Nd.mk 6 Nd.zero 0 0 [A]), (Nd.mk 6 Nd.zero 0 0 [bad]), (Nd.mk 6 Nd.zero 0 0 [B])])) 0 (-1)).most, .slice a4696 (Nd.times (Nd.mk 3 Nd.zero 0 0 ([(Nd.mk 6 Nd.zero 0 0 [A]), (Nd.mk 6 Nd.zero 0 0 [bad]), (Nd.mk 6 Nd.zero 0 0 [B])])) 0 (-1)).subs.length cap4696]), (99, .agg #[.int .u8 (Nd.capture (Nd.mk 3 Nd.zero 0 0 ([(Nd.mk 6 Nd.zero 0 0 [A]), (Nd.mk 6 Nd.zero 0 0 [bad]), (Nd.mk 6 Nd.zero 0 0 [B])]))).kind, .int .u64 (Nd.capture (Nd.mk 3 Nd.zero 0 0 ([(Nd.mk 6 Nd.zero 0 0 [A]), (Nd.mk 6 Nd.zero 0 0 [bad]), (Nd.mk 6 Nd.zero 0 0 [B])]))).set.a, .int .u64 (Nd.capture (Nd.mk 3 Nd.zero 0 0 ([(Nd.mk 6 Nd.zero 0 0 [A]), (Nd.mk 6 Nd.zero 0 0 [bad]), (Nd.mk 6 Nd.zero 0 0 [B])]))).set.b, .int .u64 (Nd.capture (Nd.mk 3 Nd.zero 0 0 ([(Nd.mk 6 Nd.zero 0 0 [A]), (Nd.mk 6 Nd.zero 0 0 [bad]), (Nd.mk 6 Nd.zero 0 0 [B])]))).set.c, .int .u64 (Nd.capture (Nd.mk 3 Nd.zero 0 0 ([(Nd.mk 6 Nd.zero 0 0 [A]), (Nd.mk 6 Nd.zero 0 0 [bad]), (Nd.mk 6 Nd.zero 0 0 [B])]))).set.d, .int .i64 (Nd.capture (Nd.mk 3 Nd.zero 0 0 ([(Nd.mk 6 Nd.zero 0 0 [A]), (Nd.mk 6 Nd.zero 0 0 [bad]), (Nd.mk 6 Nd.zero 0 0 [B])]))).least, .int .i64 (Nd.capture (Nd.mk 3 Nd.zero 0 0 ([(Nd.mk 6 Nd.zero 0 0 [A]), (Nd.mk 6 Nd.zero 0 0 [bad]), (Nd.mk 6 Nd.zero 0 0 [B])]))).most, .slice a4697 (Nd.capture (Nd.mk 3 Nd.zero 0 0 ([(Nd.mk 6 Nd.zero 0 0 [A]), (Nd.mk 6 Nd.zero 0 0 [bad]), (Nd.mk 6 Nd.zero 0 0 [B])]))).subs.length cap4697]), (101, .agg #[.int .u8 (Nd.capture bad).kind, .int .u64 (Nd.capture bad).set.a, .int .u64 (Nd.capture bad).set.b, .int .u64 (Nd.capture bad).set.c, .int .u64 (Nd.capture bad).set.d, .int .i64 (Nd.capture bad).least, .int .i64 (Nd.capture bad).most, .slice a4698 (Nd.capture bad).subs.length cap4698]), (104, .agg #[.int .u8 (Nd.seq ([bad])).kind, .int .u64 (Nd.seq ([bad])).set.a, .int .u64 (Nd.seq ([bad])).set.b, .int .u64 (Nd.seq ([bad])).set.c, .int .u64 (Nd.seq ([bad])).set.d, .int .i64 (Nd.seq ([bad])).least, .int .i64 (Nd.seq ([bad])).most, .slice a4699 (Nd.seq ([bad])).subs.length cap4699])], (agree_cons (look_right rfl hv4694) (agree_cons (look_right rfl hv4695) (agree_cons (look_right rfl hv4696) (agree_cons (look_right rfl hv4697) (agree_cons (look_right rfl hv4698) (agree_cons (look_right rfl hv4699) (agree_nil _))))))), ?_⟩
    refine WL.buildSlice (vs := [.agg #[.int .u8 (Nd.seq ([A, (Nd.mk 3 Nd.zero 0 0 ([(Nd.mk 6 Nd.zero 0 0 [A]), (Nd.mk 6 Nd.zero 0 0 [bad]), (Nd.mk 6 Nd.zero 0 0 [B])]))])).kind, .int .u64 (Nd.seq ([A, (Nd.mk 3 Nd.zero 0 0 ([(Nd.mk 6 Nd.zero 0 0 [A]), (Nd.mk 6 Nd.zero 0 0 [bad]), (Nd.mk 6 Nd.zero 0 0 [B])]))])).set.a, .int .u64 (Nd.seq ([A, (Nd.mk 3 Nd.zero 0 0 ([(Nd.mk 6 Nd.zero 0 0 [A]), (Nd.mk 6 Nd.zero 0 0 [bad]), (Nd.mk 6 Nd.zero 0 0 [B])]))])).set.b, .int .u64 (Nd.seq ([A, (Nd.mk 3 Nd.zero 0 0 ([(Nd.mk 6 Nd.zero 0 0 [A]), (Nd.mk 6 Nd.zero 0 0 [bad]), (Nd.mk 6 Nd.zero 0 0 [B])]))])).set.c, .int .u64 (Nd.seq ([A, (Nd.mk 3 Nd.zero 0 0 ([(Nd.mk 6 Nd.zero 0 0 [A]), (Nd.mk 6 Nd.zero 0 0 [bad]), (Nd.mk 6 Nd.zero 0 0 [B])]))])).set.d, .int .i64 (Nd.seq ([A, (Nd.mk 3 Nd.zero 0 0 ([(Nd.mk 6 Nd.zero 0 0 [A]), (Nd.mk 6 Nd.zero 0 0 [bad]), (Nd.mk 6 Nd.zero 0 0 [B])]))])).least, .int .i64 (Nd.seq ([A, (Nd.mk 3 Nd.zero 0 0 ([(Nd.mk 6 Nd.zero 0 0 [A]), (Nd.mk 6 Nd.zero 0 0 [bad]), (Nd.mk 6 Nd.zero 0 0 [B])]))])).most, .slice a4694 (Nd.seq ([A, (Nd.mk 3 Nd.zero 0 0 ([(Nd.mk 6 Nd.zero 0 0 [A]), (Nd.mk 6 Nd.zero 0 0 [bad]), (Nd.mk 6 Nd.zero 0 0 [B])]))])).subs.length cap4694], .agg #[.int .u8 (Nd.or ([(Nd.mk 3 Nd.zero 0 0 ([(Nd.mk 6 Nd.zero 0 0 [A]), (Nd.mk 6 Nd.zero 0 0 [bad]), (Nd.mk 6 Nd.zero 0 0 [B])])), B])).kind, .int .u64 (Nd.or ([(Nd.mk 3 Nd.zero 0 0 ([(Nd.mk 6 Nd.zero 0 0 [A]), (Nd.mk 6 Nd.zero 0 0 [bad]), (Nd.mk 6 Nd.zero 0 0 [B])])), B])).set.a, .int .u64 (Nd.or ([(Nd.mk 3 Nd.zero 0 0 ([(Nd.mk 6 Nd.zero 0 0 [A]), (Nd.mk 6 Nd.zero 0 0 [bad]), (Nd.mk 6 Nd.zero 0 0 [B])])), B])).set.b, .int .u64 (Nd.or ([(Nd.mk 3 Nd.zero 0 0 ([(Nd.mk 6 Nd.zero 0 0 [A]), (Nd.mk 6 Nd.zero 0 0 [bad]), (Nd.mk 6 Nd.zero 0 0 [B])])), B])).set.c, .int .u64 (Nd.or ([(Nd.mk 3 Nd.zero 0 0 ([(Nd.mk 6 Nd.zero 0 0 [A]), (Nd.mk 6 Nd.zero 0 0 [bad]), (Nd.mk 6 Nd.zero 0 0 [B])])), B])).set.d, .int .i64 (Nd.or ([(Nd.mk 3 Nd.zero 0 0 ([(Nd.mk 6 Nd.zero 0 0 [A]), (Nd.mk 6 Nd.zero 0 0 [bad]), (Nd.mk 6 Nd.zero 0 0 [B])])), B])).least, .int .i64 (Nd.or ([(Nd.mk 3 Nd.zero 0 0 ([(Nd.mk 6 Nd.zero 0 0 [A]), (Nd.mk 6 Nd.zero 0 0 [bad]), (Nd.mk 6 Nd.zero 0 0 [B])])), B])).most, .slice a4695 (Nd.or ([(Nd.mk 3 Nd.zero 0 0 ([(Nd.mk 6 Nd.zero 0 0 [A]), (Nd.mk 6 Nd.zero 0 0 [bad]), (Nd.mk 6 Nd.zero 0 0 [B])])), B])).subs.length cap4695], .agg #[.int .u8 (Nd.times (Nd.mk 3 Nd.zero 0 0 ([(Nd.mk 6 Nd.zero 0 0 [A]), (Nd.mk 6 Nd.zero 0 0 [bad]), (Nd.mk 6 Nd.zero 0 0 [B])])) 0 (-1)).kind, .int .u64 (Nd.times (Nd.mk 3 Nd.zero 0 0 ([(Nd.mk 6 Nd.zero 0 0 [A]), (Nd.mk 6 Nd.zero 0 0 [bad]), (Nd.mk 6 Nd.zero 0 0 [B])])) 0 (-1)).set.a, .int .u64 (Nd.times (Nd.mk 3 Nd.zero 0 0 ([(Nd.mk 6 Nd.zero 0 0 [A]), (Nd.mk 6 Nd.zero 0 0 [bad]), (Nd.mk 6 Nd.zero 0 0 [B])])) 0 (-1)).set.b, .int .u64 (Nd.times (Nd.mk 3 Nd.zero 0 0 ([(Nd.mk 6 Nd.zero 0 0 [A]), (Nd.mk 6 Nd.zero 0 0 [bad]), (Nd.mk 6 Nd.zero 0 0 [B])])) 0 (-1)).set.c, .int .u64 (Nd.times (Nd.mk 3 Nd.zero 0 0 ([(Nd.mk 6 Nd.zero 0 0 [A]), (Nd.mk 6 Nd.zero 0 0 [bad]), (Nd.mk 6 Nd.zero 0 0 [B])])) 0 (-1)).set.d, .int .i64 (Nd.times (Nd.mk 3 Nd.zero 0 0 ([(Nd.mk 6 Nd.zero 0 0 [A]), (Nd.mk 6 Nd.zero 0 0 [bad]), (Nd.mk 6 Nd.zero 0 0 [B])])) 0 (-1)).least, .int .i64 (Nd.times (Nd.mk 3 Nd.zero 0 0 ([(Nd.mk 6 Nd.zero 0 0 [A]), (Nd.mk 6 Nd.zero 0 0 [bad]), (Nd.mk 6 Nd.zero 0 0 [B])])) 0 (-1)).most, .slice a4696 (Nd.times (Nd.mk 3 Nd.zero 0 0 ([(Nd.mk 6 Nd.zero 0 0 [A]), (Nd.mk 6 Nd.zero 0 0 [bad]), (Nd.mk 6 Nd.zero 0 0 [B])])) 0 (-1)).subs.length cap4696], .agg #[.int .u8 (Nd.capture (Nd.mk 3 Nd.zero 0 0 ([(Nd.mk 6 Nd.zero 0 0 [A]), (Nd.mk 6 Nd.zero 0 0 [bad]), (Nd.mk 6 Nd.zero 0 0 [B])]))).kind, .int .u64 (Nd.capture (Nd.mk 3 Nd.zero 0 0 ([(Nd.mk 6 Nd.zero 0 0 [A]), (Nd.mk 6 Nd.zero 0 0 [bad]), (Nd.mk 6 Nd.zero 0 0 [B])]))).set.a, .int .u64 (Nd.capture (Nd.mk 3 Nd.zero 0 0 ([(Nd.mk 6 Nd.zero 0 0 [A]), (Nd.mk 6 Nd.zero 0 0 [bad]), (Nd.mk 6 Nd.zero 0 0 [B])]))).set.b, .int .u64 (Nd.capture (Nd.mk 3 Nd.zero 0 0 ([(Nd.mk 6 Nd.zero 0 0 [A]), (Nd.mk 6 Nd.zero 0 0 [bad]), (Nd.mk 6 Nd.zero 0 0 [B])]))).set.c, .int .u64 (Nd.capture (Nd.mk 3 Nd.zero 0 0 ([(Nd.mk 6 Nd.zero 0 0 [A]), (Nd.mk 6 Nd.zero 0 0 [bad]), (Nd.mk 6 Nd.zero 0 0 [B])]))).set.d, .int .i64 (Nd.capture (Nd.mk 3 Nd.zero 0 0 ([(Nd.mk 6 Nd.zero 0 0 [A]), (Nd.mk 6 Nd.zero 0 0 [bad]), (Nd.mk 6 Nd.zero 0 0 [B])]))).least, .int .i64 (Nd.capture (Nd.mk 3 Nd.zero 0 0 ([(Nd.mk 6 Nd.zero 0 0 [A]), (Nd.mk 6 Nd.zero 0 0 [bad]), (Nd.mk 6 Nd.zero 0 0 [B])]))).most, .slice a4697 (Nd.capture (Nd.mk 3 Nd.zero 0 0 ([(Nd.mk 6 Nd.zero 0 0 [A]), (Nd.mk 6 Nd.zero 0 0 [bad]), (Nd.mk 6 Nd.zero 0 0 [B])]))).subs.length cap4697], .agg #[.int .u8 (Nd.capture bad).kind, .int .u64 (Nd.capture bad).set.a, .int .u64 (Nd.capture bad).set.b, .int .u64 (Nd.capture bad).set.c, .int .u64 (Nd.capture bad).set.d, .int .i64 (Nd.capture bad).least, .int .i64 (Nd.capture bad).most, .slice a4698 (Nd.capture bad).subs.length cap4698], .agg #[.int .u8 (Nd.seq ([bad])).kind, .int .u64 (Nd.seq ([bad])).set.a, .int .u64 (Nd.seq ([bad])).set.b, .int .u64 (Nd.seq ([bad])).set.c, .int .u64 (Nd.seq ([bad])).set.d, .int .i64 (Nd.seq ([bad])).least, .int .i64 (Nd.seq ([bad])).most, .slice a4699 (Nd.seq ([bad])).subs.length cap4699]]) (cells := [.int .u8 (Nd.seq ([A, (Nd.mk 3 Nd.zero 0 0 ([(Nd.mk 6 Nd.zero 0 0 [A]), (Nd.mk 6 Nd.zero 0 0 [bad]), (Nd.mk 6 Nd.zero 0 0 [B])]))])).kind, .int .u64 (Nd.seq ([A, (Nd.mk 3 Nd.zero 0 0 ([(Nd.mk 6 Nd.zero 0 0 [A]), (Nd.mk 6 Nd.zero 0 0 [bad]), (Nd.mk 6 Nd.zero 0 0 [B])]))])).set.a, .int .u64 (Nd.seq ([A, (Nd.mk 3 Nd.zero 0 0 ([(Nd.mk 6 Nd.zero 0 0 [A]), (Nd.mk 6 Nd.zero 0 0 [bad]), (Nd.mk 6 Nd.zero 0 0 [B])]))])).set.b, .int .u64 (Nd.seq ([A, (Nd.mk 3 Nd.zero 0 0 ([(Nd.mk 6 Nd.zero 0 0 [A]), (Nd.mk 6 Nd.zero 0 0 [bad]), (Nd.mk 6 Nd.zero 0 0 [B])]))])).set.c, .int .u64 (Nd.seq ([A, (Nd.mk 3 Nd.zero 0 0 ([(Nd.mk 6 Nd.zero 0 0 [A]), (Nd.mk 6 Nd.zero 0 0 [bad]), (Nd.mk 6 Nd.zero 0 0 [B])]))])).set.d, .int .i64 (Nd.seq ([A, (Nd.mk 3 Nd.zero 0 0 ([(Nd.mk 6 Nd.zero 0 0 [A]), (Nd.mk 6 Nd.zero 0 0 [bad]), (Nd.mk 6 Nd.zero 0 0 [B])]))])).least, .int .i64 (Nd.seq ([A, (Nd.mk 3 Nd.zero 0 0 ([(Nd.mk 6 Nd.zero 0 0 [A]), (Nd.mk 6 Nd.zero 0 0 [bad]), (Nd.mk 6 Nd.zero 0 0 [B])]))])).most, .slice a4694 (Nd.seq ([A, (Nd.mk 3 Nd.zero 0 0 ([(Nd.mk 6 Nd.zero 0 0 [A]), (Nd.mk 6 Nd.zero 0 0 [bad]), (Nd.mk 6 Nd.zero 0 0 [B])]))])).subs.length cap4694, .int .u8 (Nd.or ([(Nd.mk 3 Nd.zero 0 0 ([(Nd.mk 6 Nd.zero 0 0 [A]), (Nd.mk 6 Nd.zero 0 0 [bad]), (Nd.mk 6 Nd.zero 0 0 [B])])), B])).kind, .int .u64 (Nd.or ([(Nd.mk 3 Nd.zero 0 0 ([(Nd.mk 6 Nd.zero 0 0 [A]), (Nd.mk 6 Nd.zero 0 0 [bad]), (Nd.mk 6 Nd.zero 0 0 [B])])), B])).set.a, .int .u64 (Nd.or ([(Nd.mk 3 Nd.zero 0 0 ([(Nd.mk 6 Nd.zero 0 0 [A]), (Nd.mk 6 Nd.zero 0 0 [bad]), (Nd.mk 6 Nd.zero 0 0 [B])])), B])).set.b, .int .u64 (Nd.or ([(Nd.mk 3 Nd.zero 0 0 ([(Nd.mk 6 Nd.zero 0 0 [A]), (Nd.mk 6 Nd.zero 0 0 [bad]), (Nd.mk 6 Nd.zero 0 0 [B])])), B])).set.c, .int .u64 (Nd.or ([(Nd.mk 3 Nd.zero 0 0 ([(Nd.mk 6 Nd.zero 0 0 [A]), (Nd.mk 6 Nd.zero 0 0 [bad]), (Nd.mk 6 Nd.zero 0 0 [B])])), B])).set.d, .int .i64 (Nd.or ([(Nd.mk 3 Nd.zero 0 0 ([(Nd.mk 6 Nd.zero 0 0 [A]), (Nd.mk 6 Nd.zero 0 0 [bad]), (Nd.mk 6 Nd.zero 0 0 [B])])), B])).least, .int .i64 (Nd.or ([(Nd.mk 3 Nd.zero 0 0 ([(Nd.mk 6 Nd.zero 0 0 [A]), (Nd.mk 6 Nd.zero 0 0 [bad]), (Nd.mk 6 Nd.zero 0 0 [B])])), B])).most, .slice a4695 (Nd.or ([(Nd.mk 3 Nd.zero 0 0 ([(Nd.mk 6 Nd.zero 0 0 [A]), (Nd.mk 6 Nd.zero 0 0 [bad]), (Nd.mk 6 Nd.zero 0 0 [B])])), B])).subs.length cap4695, .int .u8 (Nd.times (Nd.mk 3 Nd.zero 0 0 ([(Nd.mk 6 Nd.zero 0 0 [A]), (Nd.mk 6 Nd.zero 0 0 [bad]), (Nd.mk 6 Nd.zero 0 0 [B])])) 0 (-1)).kind, .int .u64 (Nd.times (Nd.mk 3 Nd.zero 0 0 ([(Nd.mk 6 Nd.zero 0 0 [A]), (Nd.mk 6 Nd.zero 0 0 [bad]), (Nd.mk 6 Nd.zero 0 0 [B])])) 0 (-1)).set.a, .int .u64 (Nd.times (Nd.mk 3 Nd.zero 0 0 ([(Nd.mk 6 Nd.zero 0 0 [A]), (Nd.mk 6 Nd.zero 0 0 [bad]), (Nd.mk 6 Nd.zero 0 0 [B])])) 0 (-1)).set.b, .int .u64 (Nd.times (Nd.mk 3 Nd.zero 0 0 ([(Nd.mk 6 Nd.zero 0 0 [A]), (Nd.mk 6 Nd.zero 0 0 [bad]), (Nd.mk 6 Nd.zero 0 0 [B])])) 0 (-1)).set.c, .int .u64 (Nd.times (Nd.mk 3 Nd.zero 0 0 ([(Nd.mk 6 Nd.zero 0 0 [A]), (Nd.mk 6 Nd.zero 0 0 [bad]), (Nd.mk 6 Nd.zero 0 0 [B])])) 0 (-1)).set.d, .int .i64 (Nd.times (Nd.mk 3 Nd.zero 0 0 ([(Nd.mk 6 Nd.zero 0 0 [A]), (Nd.mk 6 Nd.zero 0 0 [bad]), (Nd.mk 6 Nd.zero 0 0 [B])])) 0 (-1)).least, .int .i64 (Nd.times (Nd.mk 3 Nd.zero 0 0 ([(Nd.mk 6 Nd.zero 0 0 [A]), (Nd.mk 6 Nd.zero 0 0 [bad]), (Nd.mk 6 Nd.zero 0 0 [B])])) 0 (-1)).most, .slice a4696 (Nd.times (Nd.mk 3 Nd.zero 0 0 ([(Nd.mk 6 Nd.zero 0 0 [A]), (Nd.mk 6 Nd.zero 0 0 [bad]), (Nd.mk 6 Nd.zero 0 0 [B])])) 0 (-1)).subs.length cap4696, .int .u8 (Nd.capture (Nd.mk 3 Nd.zero 0 0 ([(Nd.mk 6 Nd.zero 0 0 [A]), (Nd.mk 6 Nd.zero 0 0 [bad]), (Nd.mk 6 Nd.zero 0 0 [B])]))).kind, .int .u64 (Nd.capture (Nd.mk 3 Nd.zero 0 0 ([(Nd.mk 6 Nd.zero 0 0 [A]), (Nd.mk 6 Nd.zero 0 0 [bad]), (Nd.mk 6 Nd.zero 0 0 [B])]))).set.a, .int .u64 (Nd.capture (Nd.mk 3 Nd.zero 0 0 ([(Nd.mk 6 Nd.zero 0 0 [A]), (Nd.mk 6 Nd.zero 0 0 [bad]), (Nd.mk 6 Nd.zero 0 0 [B])]))).set.b, .int .u64 (Nd.capture (Nd.mk 3 Nd.zero 0 0 ([(Nd.mk 6 Nd.zero 0 0 [A]), (Nd.mk 6 Nd.zero 0 0 [bad]), (Nd.mk 6 Nd.zero 0 0 [B])]))).set.c, .int .u64 (Nd.capture (Nd.mk 3 Nd.zero 0 0 ([(Nd.mk 6 Nd.zero 0 0 [A]), (Nd.mk 6 Nd.zero 0 0 [bad]), (Nd.mk 6 Nd.zero 0 0 [B])]))).set.d, .int .i64 (Nd.capture (Nd.mk 3 Nd.zero 0 0 ([(Nd.mk 6 Nd.zero 0 0 [A]), (Nd.mk 6 Nd.zero 0 0 [bad]), (Nd.mk 6 Nd.zero 0 0 [B])]))).least, .int .i64 (Nd.capture (Nd.mk 3 Nd.zero 0 0 ([(Nd.mk 6 Nd.zero 0 0 [A]), (Nd.mk 6 Nd.zero 0 0 [bad]), (Nd.mk 6 Nd.zero 0 0 [B])]))).most, .slice a4697 (Nd.capture (Nd.mk 3 Nd.zero 0 0 ([(Nd.mk 6 Nd.zero 0 0 [A]), (Nd.mk 6 Nd.zero 0 0 [bad]), (Nd.mk 6 Nd.zero 0 0 [B])]))).subs.length cap4697, .int .u8 (Nd.capture bad).kind, .int .u64 (Nd.capture bad).set.a, .int .u64 (Nd.capture bad).set.b, .int .u64 (Nd.capture bad).set.c, .int .u64 (Nd.capture bad).set.d, .int .i64 (Nd.capture bad).least, .int .i64 (Nd.capture bad).most, .slice a4698 (Nd.capture bad).subs.length cap4698, .int .u8 (Nd.seq ([bad])).kind, .int .u64 (Nd.seq ([bad])).set.a, .int .u64 (Nd.seq ([bad])).set.b, .int .u64 (Nd.seq ([bad])).set.c, .int .u64 (Nd.seq ([bad])).set.d, .int .i64 (Nd.seq ([bad])).least, .int .i64 (Nd.seq ([bad])).most, .slice a4699 (Nd.seq ([bad])).subs.length cap4699]) rfl rfl Ty.slice27 Ty.zero29 rfl rfl rfl rfl rfl rfl (fun b4700 w4705 hb4701 hE4704 hs4702 hR4703 => ?_)
    have hts4700 := (NodesV.lit (n := 6) (ts := [(Nd.seq ([A, (Nd.mk 3 Nd.zero 0 0 ([(Nd.mk 6 Nd.zero 0 0 [A]), (Nd.mk 6 Nd.zero 0 0 [bad]), (Nd.mk 6 Nd.zero 0 0 [B])]))])), (Nd.or ([(Nd.mk 3 Nd.zero 0 0 ([(Nd.mk 6 Nd.zero 0 0 [A]), (Nd.mk 6 Nd.zero 0 0 [bad]), (Nd.mk 6 Nd.zero 0 0 [B])])), B])), (Nd.times (Nd.mk 3 Nd.zero 0 0 ([(Nd.mk 6 Nd.zero 0 0 [A]), (Nd.mk 6 Nd.zero 0 0 [bad]), (Nd.mk 6 Nd.zero 0 0 [B])])) 0 (-1)), (Nd.capture (Nd.mk 3 Nd.zero 0 0 ([(Nd.mk 6 Nd.zero 0 0 [A]), (Nd.mk 6 Nd.zero 0 0 [bad]), (Nd.mk 6 Nd.zero 0 0 [B])]))), (Nd.capture bad), (Nd.seq ([bad]))]) hR4703 (RowsL.cons (hn4694.ext hE4704) (RowsL.cons (hn4695.ext hE4704) (RowsL.cons (hn4696.ext hE4704) (RowsL.cons (hn4697.ext hE4704) (RowsL.cons (hn4698.ext hE4704) (RowsL.cons (hn4699.ext hE4704) (RowsL.nil' _))))))) rfl rfl (by decide)).lt
    refine WL.nil (fun a_ ha => ?_)
    exact ⟨_, β, ha, hE4704, BExt.refl _ _, hbi.ext hE4704, ⟨_, _, rfl, (hts4700.dom (by intro k h1; refine ⟨trivial, ?_, h1.2⟩; replace h1 := h1.1; intro x hxm; have hi := hbi.hi x hxm; have lo := hbi.lo x hxm; (try dsimp only at h1); (repeat' first | (guard_hyp h1 : _ ∨ _; refine Or.elim h1 (fun h1 => ?_) (fun h1 => ?_)) | (guard_hyp h1 : _ ∧ _; have hx := h1.2; replace h1 := h1.1)) <;> first | contradiction | omega | exact hx.1 x hxm))⟩⟩
  · intro σ β w1 hE1 hbi hk
    have hz1 := hE1.size
    obtain ⟨_, hv4794, a4794, cap4794, rfl, hts4794⟩ := hk 17 (by kernel_rfl) _ _ rfl rfl
    have hts4794 := hts4794.lt
    have hlen4794 := hts4794.len
    refine ⟨[(105, .slice a4794 (([(Nd.seq ([A, (Nd.mk 3 Nd.zero 0 0 ([(Nd.mk 6 Nd.zero 0 0 [A]), (Nd.mk 6 Nd.zero 0 0 [bad]), (Nd.mk 6 Nd.zero 0 0 [B])]))])), (Nd.or ([(Nd.mk 3 Nd.zero 0 0 ([(Nd.mk 6 Nd.zero 0 0 [A]), (Nd.mk 6 Nd.zero 0 0 [bad]), (Nd.mk 6 Nd.zero 0 0 [B])])), B])), (Nd.times (Nd.mk 3 Nd.zero 0 0 ([(Nd.mk 6 Nd.zero 0 0 [A]), (Nd.mk 6 Nd.zero 0 0 [bad]), (Nd.mk 6 Nd.zero 0 0 [B])])) 0 (-1)), (Nd.capture (Nd.mk 3 Nd.zero 0 0 ([(Nd.mk 6 Nd.zero 0 0 [A]), (Nd.mk 6 Nd.zero 0 0 [bad]), (Nd.mk 6 Nd.zero 0 0 [B])]))), (Nd.capture bad), (Nd.seq ([bad]))]).length) cap4794)], (agree_cons (look_right rfl hv4794) (agree_nil _)), ?_⟩
    refine WL.len rfl rfl Try.underlying27 rfl ?_
    refine WL.nil (fun a_ ha => ?_)
    exact ⟨_, β, ha, (Ext.refl _), BExt.refl _ _, hbi.ext (Ext.refl _), rfl⟩
  · intro σ β w1 hE1 hbi hk
    have hz1 := hE1.size
    refine ⟨[], (agree_nil _), ?_⟩
    refine WL.move rfl rfl rfl ?_
    refine WL.nil (fun a_ ha => ?_)
    exact ⟨_, β, ha, (Ext.refl _), BExt.refl _ _, hbi.ext (Ext.refl _), rfl⟩
  intro σ β w2793 hE2793 hbi2793 hk
  have hz2793 := hE2793.size
  have hbi := hbi2793
  obtain ⟨_, hv2794, a2794, cap2794, rfl, hts2794⟩ := hk 17 (by decide) _ _ rfl rfl
  have hts2794 := hts2794.lt
  have hlen2794 := hts2794.len
  obtain ⟨_, hv2795, rfl⟩ := hk 18 (by decide) _ _ rfl rfl
  obtain ⟨_, hv2796, rfl⟩ := hk 19 (by decide) _ _ rfl rfl
  refine WL.know [(105, .slice a2794 (([(Nd.seq ([A, (Nd.mk 3 Nd.zero 0 0 ([(Nd.mk 6 Nd.zero 0 0 [A]), (Nd.mk 6 Nd.zero 0 0 [bad]), (Nd.mk 6 Nd.zero 0 0 [B])]))])), (Nd.or ([(Nd.mk 3 Nd.zero 0 0 ([(Nd.mk 6 Nd.zero 0 0 [A]), (Nd.mk 6 Nd.zero 0 0 [bad]), (Nd.mk 6 Nd.zero 0 0 [B])])), B])), (Nd.times (Nd.mk 3 Nd.zero 0 0 ([(Nd.mk 6 Nd.zero 0 0 [A]), (Nd.mk 6 Nd.zero 0 0 [bad]), (Nd.mk 6 Nd.zero 0 0 [B])])) 0 (-1)), (Nd.capture (Nd.mk 3 Nd.zero 0 0 ([(Nd.mk 6 Nd.zero 0 0 [A]), (Nd.mk 6 Nd.zero 0 0 [bad]), (Nd.mk 6 Nd.zero 0 0 [B])]))), (Nd.capture bad), (Nd.seq ([bad]))]).length) cap2794), (106, .int .i64 6), (107, .int .i64 0)] (agree_cons (look_right rfl hv2794) (agree_cons (look_right rfl hv2795) (agree_cons (look_right rfl hv2796) (agree_nil _)))) ?_
  refine WL.done' ?_ (fun _ _ h => h)
  refine WC.block ?_
  have hall : ∀ t ∈ [(Nd.seq ([A, (Nd.mk 3 Nd.zero 0 0 ([(Nd.mk 6 Nd.zero 0 0 [A]), (Nd.mk 6 Nd.zero 0 0 [bad]), (Nd.mk 6 Nd.zero 0 0 [B])]))])), (Nd.or ([(Nd.mk 3 Nd.zero 0 0 ([(Nd.mk 6 Nd.zero 0 0 [A]), (Nd.mk 6 Nd.zero 0 0 [bad]), (Nd.mk 6 Nd.zero 0 0 [B])])), B])), (Nd.times (Nd.mk 3 Nd.zero 0 0 ([(Nd.mk 6 Nd.zero 0 0 [A]), (Nd.mk 6 Nd.zero 0 0 [bad]), (Nd.mk 6 Nd.zero 0 0 [B])])) 0 (-1)), (Nd.capture (Nd.mk 3 Nd.zero 0 0 ([(Nd.mk 6 Nd.zero 0 0 [A]), (Nd.mk 6 Nd.zero 0 0 [bad]), (Nd.mk 6 Nd.zero 0 0 [B])]))), (Nd.capture bad), (Nd.seq ([bad]))], t = Nd.none := by
    intro t ht
    simp only [List.mem_cons, List.not_mem_nil, or_false] at ht
    rcases ht with rfl | rfl | rfl | rfl | rfl | rfl
    · exact Nd.seq_bad (List.mem_cons_of_mem _ (List.mem_cons_self ..)) (Nd.wrong_not hbn)
    · exact Nd.or_bad (List.mem_cons_self ..) (Nd.wrong_good hbn)
    · exact Nd.times_wrong _ _ (Nd.wrong_good hbn)
    · exact Nd.wrong_capture hbn
    · exact Nd.capture_wrong hbn
    · exact Nd.seq_bad (List.mem_cons_self ..) (Nd.not_clean hbn)
  refine WC.weaken (r' := [(12, .pointer (some ⟨b1870, 0, none⟩)), (105, .slice a2794 (([(Nd.seq ([A, (Nd.mk 3 Nd.zero 0 0 ([(Nd.mk 6 Nd.zero 0 0 [A]), (Nd.mk 6 Nd.zero 0 0 [bad]), (Nd.mk 6 Nd.zero 0 0 [B])]))])), (Nd.or ([(Nd.mk 3 Nd.zero 0 0 ([(Nd.mk 6 Nd.zero 0 0 [A]), (Nd.mk 6 Nd.zero 0 0 [bad]), (Nd.mk 6 Nd.zero 0 0 [B])])), B])), (Nd.times (Nd.mk 3 Nd.zero 0 0 ([(Nd.mk 6 Nd.zero 0 0 [A]), (Nd.mk 6 Nd.zero 0 0 [bad]), (Nd.mk 6 Nd.zero 0 0 [B])])) 0 (-1)), (Nd.capture (Nd.mk 3 Nd.zero 0 0 ([(Nd.mk 6 Nd.zero 0 0 [A]), (Nd.mk 6 Nd.zero 0 0 [bad]), (Nd.mk 6 Nd.zero 0 0 [B])]))), (Nd.capture bad), (Nd.seq ([bad]))]).length) cap2794), (106, .int .i64 6), (107, .int .i64 0)]) (subReg_cons rfl (subReg_cons rfl (subReg_cons rfl (subReg_cons rfl (subReg_nil _))))) ?_
  refine WC.loop (σ := Nat) (fun k r_ w_ => r_ = [(12, .pointer (some ⟨b1870, 0, none⟩)), (105, .slice a2794 (([(Nd.seq ([A, (Nd.mk 3 Nd.zero 0 0 ([(Nd.mk 6 Nd.zero 0 0 [A]), (Nd.mk 6 Nd.zero 0 0 [bad]), (Nd.mk 6 Nd.zero 0 0 [B])]))])), (Nd.or ([(Nd.mk 3 Nd.zero 0 0 ([(Nd.mk 6 Nd.zero 0 0 [A]), (Nd.mk 6 Nd.zero 0 0 [bad]), (Nd.mk 6 Nd.zero 0 0 [B])])), B])), (Nd.times (Nd.mk 3 Nd.zero 0 0 ([(Nd.mk 6 Nd.zero 0 0 [A]), (Nd.mk 6 Nd.zero 0 0 [bad]), (Nd.mk 6 Nd.zero 0 0 [B])])) 0 (-1)), (Nd.capture (Nd.mk 3 Nd.zero 0 0 ([(Nd.mk 6 Nd.zero 0 0 [A]), (Nd.mk 6 Nd.zero 0 0 [bad]), (Nd.mk 6 Nd.zero 0 0 [B])]))), (Nd.capture bad), (Nd.seq ([bad]))]).length) cap2794), (106, .int .i64 6), (107, .int .i64 (k : Int))] ∧ Ext w2793 w_ ∧ k ≤ 6) (fun k => 6 - k) 0 ⟨rfl, (Ext.refl _), (Nat.zero_le _)⟩ ?_
  rintro k r_ w2799 ⟨rfl, hE2797, hI2798⟩
  have hzhE2797 := hE2797.size
  have hk := hI2798
  refine WC.seqk ?_
  refine WC.region ?_
  cases hc2800 : decide (((k : Int) : Int) < 6) with
  | false =>
    refine WL.lss rfl rfl rfl rfl hc2800 ?_
    have hp2800 := of_decide_eq_false hc2800
    refine WL.done' ?_ (fun _ _ h => h)
    refine WC.seqk ?_
    refine WC.cond_f rfl ?_
    refine WC.exit (fun a_ ha => ?_)
    refine exit_then ?_
    refine exit_then ?_
    refine exit_here ?_
    refine WC.at ?_ ha
    refine WC.seqk ?_
    refine WC.region ?_
    refine WL.build0 (l := [.int .u64 0, .int .u64 0, .int .u64 0, .int .u64 0]) rfl rfl Ty.zero26 Ty.agg26 rfl Ty.bz26 ?_
    refine WL.call rfl rfl rfl Ty.ent26 (of_ok _ Nd.zero) ?_
    rintro _ w2803 ⟨l2801, rfl, hr2801, hE2802⟩
    have hzhE2802 := hE2802.size
    refine ⟨_, rfl, ?_⟩
    have hn2801 := hr2801.lt
    obtain ⟨sl2801, rfl, hts2801⟩ := hn2801.opn
    obtain ⟨a2801, cap2801, rfl, hlen2801, -⟩ := hts2801.get
    refine WL.field rfl rfl Ty.fty29_0 Ty.flat5 rfl rfl ?_
    refine WL.eql (b := true) rfl rfl rfl rfl (by kernel_rfl) ?_
    refine WL.move rfl rfl rfl ?_
    have h2804 := (((h1893.ext hE2793).ext hE2797).ext hE2802)
    refine WL.load_box rfl rfl rfl h2804 Ty.agg29 ?_
    refine WL.load_box rfl rfl rfl h2804 Ty.agg29 ?_
    have h2805 := (((h1884.ext hE2793).ext hE2797).ext hE2802)
    refine WL.call rfl rfl rfl Ty.ent14 (Same_ok _ _ _ _ _ (Nd.mk 3 Nd.zero 0 0 ([(Nd.mk 6 Nd.zero 0 0 [A]), (Nd.mk 6 Nd.zero 0 0 [bad]), (Nd.mk 6 Nd.zero 0 0 [B])])) (Nd.mk 3 Nd.zero 0 0 ([(Nd.mk 6 Nd.zero 0 0 [A]), (Nd.mk 6 Nd.zero 0 0 [bad]), (Nd.mk 6 Nd.zero 0 0 [B])])) h2805 h2805) ?_
    rintro _ w2807 ⟨he, hE2806⟩
    have hq : (Nd.light (Nd.mk 3 Nd.zero 0 0 ([(Nd.mk 6 Nd.zero 0 0 [A]), (Nd.mk 6 Nd.zero 0 0 [bad]), (Nd.mk 6 Nd.zero 0 0 [B])])) && Nd.light (Nd.mk 3 Nd.zero 0 0 ([(Nd.mk 6 Nd.zero 0 0 [A]), (Nd.mk 6 Nd.zero 0 0 [bad]), (Nd.mk 6 Nd.zero 0 0 [B])])) && Nd.same (Nd.mk 3 Nd.zero 0 0 ([(Nd.mk 6 Nd.zero 0 0 [A]), (Nd.mk 6 Nd.zero 0 0 [bad]), (Nd.mk 6 Nd.zero 0 0 [B])])) (Nd.mk 3 Nd.zero 0 0 ([(Nd.mk 6 Nd.zero 0 0 [A]), (Nd.mk 6 Nd.zero 0 0 [bad]), (Nd.mk 6 Nd.zero 0 0 [B])]))) = true := (Nd.Same_self (Nd.wrong_light hmA.size hbz hmB.size))
    rw [hq] at he
    subst he
    clear hq
    have hzhE2806 := hE2806.size
    refine ⟨_, rfl, ?_⟩
    refine WL.pick_t rfl rfl rfl rfl ?_
    refine WL.assign rfl rfl rfl ?_
    refine WL.done' ?_ (fun _ _ h => h)
    refine WC.ret (fun a_ ha => ?_)
    exact bodyPost_tmp rfl ha rfl ⟨rfl, ((((((((hB1873.onto ((hB960.onto ((hB48.onto ((hB38.onto (((hB26.onto (hB23.onto ((((hE1.trans hE4).trans hE8).trans hE14).trans hE20) (by omega)) (by omega)).trans hE29).trans hE35) (by omega)).trans hE45) (by omega)).trans hE956) (by omega)).trans hE1869) (by omega)).trans hE1875).trans hE1878).trans hE1882).trans hE2793).trans hE2797).trans hE2802).trans hE2806)⟩
  | true =>
    refine WL.lss rfl rfl rfl rfl hc2800 ?_
    have hp2800 := of_decide_eq_true hc2800
    refine WL.done' ?_ (fun _ _ h => h)
    refine WC.seqk ?_
    refine WC.cond_t rfl ?_
    refine WC.skip'' ?_ (fun _ _ h => h)
    refine WC.seqk ?_
    refine WC.block ?_
    refine WC.seqk ?_
    refine WC.region ?_
    obtain ⟨t2851, ht2851⟩ : ∃ t, [(Nd.seq ([A, (Nd.mk 3 Nd.zero 0 0 ([(Nd.mk 6 Nd.zero 0 0 [A]), (Nd.mk 6 Nd.zero 0 0 [bad]), (Nd.mk 6 Nd.zero 0 0 [B])]))])), (Nd.or ([(Nd.mk 3 Nd.zero 0 0 ([(Nd.mk 6 Nd.zero 0 0 [A]), (Nd.mk 6 Nd.zero 0 0 [bad]), (Nd.mk 6 Nd.zero 0 0 [B])])), B])), (Nd.times (Nd.mk 3 Nd.zero 0 0 ([(Nd.mk 6 Nd.zero 0 0 [A]), (Nd.mk 6 Nd.zero 0 0 [bad]), (Nd.mk 6 Nd.zero 0 0 [B])])) 0 (-1)), (Nd.capture (Nd.mk 3 Nd.zero 0 0 ([(Nd.mk 6 Nd.zero 0 0 [A]), (Nd.mk 6 Nd.zero 0 0 [bad]), (Nd.mk 6 Nd.zero 0 0 [B])]))), (Nd.capture bad), (Nd.seq ([bad]))][k]? = some t := ⟨_, List.getElem?_eq_getElem (by first | decide | (show k < 6; omega))⟩
    obtain ⟨eb2851, eo2851, el2851, hea2851, hD2851, her2851, hn2851⟩ := (hts2794.ext hE2797).at ht2851
    obtain ⟨sl2851, rfl, hts2851⟩ := hn2851.opn
    obtain ⟨a2851, cap2851, rfl, hlen2851, -⟩ := hts2851.get
    subst hea2851
    refine WL.indexAddr (i := k) rfl rfl Ty.slice27 rfl rfl rfl (by first | decide | (show k < 6; omega)) ?_
    refine WL.load_agg (l := tcells t2851 (.slice a2851 t2851.subs.length cap2851)) rfl rfl Ty.agg29 rfl her2851 ?_
    refine WL.alloc rfl rfl Ty.zero29 rfl (fun b2852 w2857 hb2853 hE2856 hs2854 hR2855 => ?_)
    refine WL.store_box rfl rfl rfl hR2855 Ty.agg29 rfl rfl (fun w2860 hB2859 hR2858 => ?_)
    have hzhB2859 := hB2859.size
    refine WL.done' ?_ (fun _ _ h => h)
    refine WC.seqk ?_
    refine WC.region ?_
    refine WL.fieldAddr rfl rfl Ty.fld29_0 rfl ?_
    refine WL.load_fld rfl rfl Ty.flat5 rfl hR2858 rfl ?_
    refine WL.neq (b := false) rfl rfl rfl rfl (by rw [hall _ (List.mem_of_getElem? ht2851)]; rfl) ?_
    refine WL.move rfl rfl rfl ?_
    refine WL.fieldAddr rfl rfl Ty.fld29_4 rfl ?_
    refine WL.load_fld rfl rfl Ty.flat27 rfl hR2858 rfl ?_
    refine WL.len rfl rfl Try.underlying27 rfl ?_
    refine WL.neq (b := false) rfl rfl rfl rfl (by rw [hall _ (List.mem_of_getElem? ht2851)]; rfl) ?_
    refine WL.pick_f rfl rfl rfl rfl ?_
    refine WL.done' ?_ (fun _ _ h => h)
    refine WC.cond_f rfl ?_
    refine WC.skip'' ?_ (fun _ _ h => h)
    refine WC.region ?_
    refine WL.add (v := (k : Int) + 1) rfl rfl rfl rfl (IntWalk.i64_in _ (by omega)) ?_
    refine WL.move rfl rfl rfl ?_
    refine WL.nil (fun a_ ha => ?_)
    exact ⟨k + 1, _, ha.weaken (subReg_cons rfl (subReg_cons rfl (subReg_cons rfl (subReg_cons rfl (subReg_nil _))))), ⟨rfl, (hB2859.onto (hE2797.trans hE2856) (by omega)), (by omega)⟩, by first | omega | (dsimp only; omega)⟩

end Go.Proofs.Ytaggidjijekpbaa
