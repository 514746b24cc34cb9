/- Walks through the program's functions: each computes what the plain Lean function says. Printed by our own gen/r8.py. -/
import Derived.Test.YtaggidjijekpbaaG
import Derived.KernelRfl
namespace Go.Proofs.Ytaggidjijekpbaa
open Go.Proofs Go.RowKit

set_option maxRecDepth 20000 in
set_option maxHeartbeats 4000000 in
theorem joins_ok (D D2 : Nat → Prop) (w : World) (kind : Int) (l l2 : List Value) (T U : Nd) (hT : NodeL D w l T) (hU : NodeL D2 w l2 U) (hs1 : T.size ≤ 100000) (hs2 : U.size ≤ 100000) :
    Calls Try.prog 18 #[.int .u8 kind, .agg l.toArray, .agg l2.toArray] w fun e w' => ∃ l', e = .returned (.agg l'.toArray) ∧ NodeL (fun k => (D k ∨ D2 k) ∨ w.heap.size ≤ k) w' l' (Nd.joins kind T U) ∧ Ext w w' := by
  have hT := hT.lt
  obtain ⟨sl, rfl, hts⟩ := hT.opn
  obtain ⟨a, cap, rfl, hlen, -⟩ := hts.get
  have hU := hU.lt
  obtain ⟨sl2, rfl, hts2⟩ := hU.opn
  obtain ⟨a2, cap2, rfl, hlen2, -⟩ := hts2.get
  refine Calls.enter (args := [.int .u8 kind, .agg #[.int .u8 T.kind, .int .u64 T.set.a, .int .u64 T.set.b, .int .u64 T.set.c, .int .u64 T.set.d, .int .i64 T.least, .int .i64 T.most, .slice a T.subs.length cap], .agg #[.int .u8 U.kind, .int .u64 U.set.a, .int .u64 U.set.b, .int .u64 U.set.c, .int .u64 U.set.d, .int .i64 U.least, .int .i64 U.most, .slice a2 U.subs.length cap2]]) Try.func18 rfl rfl rfl rfl ?_
  refine WC.seqk ?_
  refine WC.region ?_
  refine WL.box_agg rfl rfl rfl (fun b1 w6 hb2 hE5 hs3 hR4 => ?_)
  refine WL.box_agg rfl rfl rfl (fun b7 w12 hb8 hE11 hs9 hR10 => ?_)
  refine WL.alloc rfl rfl Ty.zero29 rfl (fun b13 w18 hb14 hE17 hs15 hR16 => ?_)
  refine WL.done' ?_ (fun _ _ h => h)
  refine WC.seqk ?_
  refine WC.region ?_
  refine WL.assign rfl rfl rfl ?_
  refine WL.done' ?_ (fun _ _ h => h)
  refine WC.seqk ?_
  refine WC.seqk ?_
  refine WC.region ?_
  have h19 := ((hR4.ext hE11).ext hE17)
  refine WL.load_box rfl rfl rfl h19 Ty.agg29 ?_
  refine WL.load_box rfl rfl rfl (hR10.ext hE17) Ty.agg29 ?_
  have h20 := (((hT.ext hE5).ext hE11).ext hE17)
  have h21 := (((hU.ext hE5).ext hE11).ext hE17)
  refine WL.buildSlice (vs := [.agg #[.int .u8 T.kind, .int .u64 T.set.a, .int .u64 T.set.b, .int .u64 T.set.c, .int .u64 T.set.d, .int .i64 T.least, .int .i64 T.most, .slice a T.subs.length cap], .agg #[.int .u8 U.kind, .int .u64 U.set.a, .int .u64 U.set.b, .int .u64 U.set.c, .int .u64 U.set.d, .int .i64 U.least, .int .i64 U.most, .slice a2 U.subs.length cap2]]) (cells := [.int .u8 T.kind, .int .u64 T.set.a, .int .u64 T.set.b, .int .u64 T.set.c, .int .u64 T.set.d, .int .i64 T.least, .int .i64 T.most, .slice a T.subs.length cap, .int .u8 U.kind, .int .u64 U.set.a, .int .u64 U.set.b, .int .u64 U.set.c, .int .u64 U.set.d, .int .i64 U.least, .int .i64 U.most, .slice a2 U.subs.length cap2]) rfl rfl Ty.slice27 Ty.zero29 rfl rfl rfl rfl rfl rfl (fun b22 w27 hb23 hE26 hs24 hR25 => ?_)
  have hts22 := (NodesV.lit (n := 2) (ts := [T, U]) hR25 (RowsL.cons (h20.ext hE26) (RowsL.cons (h21.ext hE26) (RowsL.nil' _))) rfl rfl (by decide)).lt
  refine WL.len rfl rfl Try.underlying27 rfl ?_
  refine WL.move rfl rfl rfl ?_
  refine WL.done' ?_ (fun _ _ h => h)
  refine WC.block ?_
  refine WC.weaken (r' := [(0, .int .u8 kind), (6, .pointer (some ⟨b13, 0, none⟩)), (12, .slice (some ⟨b22, 0, none⟩) 2 2), (13, .int .i64 2), (14, .int .i64 0), (7, .slice none 0 0)]) (subReg_cons rfl (subReg_cons rfl (subReg_cons rfl (subReg_cons rfl (subReg_cons rfl (subReg_cons rfl (subReg_nil _))))))) ?_
  refine WC.loop (σ := Nat × Value) (fun s r_ w_ => r_ = [(0, .int .u8 kind), (6, .pointer (some ⟨b13, 0, none⟩)), (12, .slice (some ⟨b22, 0, none⟩) 2 2), (13, .int .i64 2), (14, .int .i64 (s.1 : Int)), (7, s.2)] ∧ Ext w w_ ∧ (s.1 ≤ 2 ∧ w27.heap.size ≤ w_.heap.size ∧ Row w_ b13 [.int .u8 0, .int .u64 0, .int .u64 0, .int .u64 0, .int .u64 0, .int .i64 0, .int .i64 0, .slice none 0 0] 29 ∧ NodesV (fun k => (((D k ∧ k < w.heap.size) ∨ (D2 k ∧ k < w.heap.size)) ∨ k = b22) ∧ k < w27.heap.size) w_ (.slice (some ⟨b22, 0, none⟩) 2 2) [T, U] ∧ OwnV 29 w27.heap.size (fun k => (((D k ∧ k < w.heap.size) ∨ (D2 k ∧ k < w.heap.size)) ∨ k = b22) ∧ k < w27.heap.size) w_ s.2 (Nd.flatJ kind ([T, U].take s.1)))) (fun s => 2 - s.1) (0, .slice none 0 0) ⟨rfl, (((hE5.trans hE11).trans hE17).trans hE26), ⟨Nat.zero_le _, Nat.le_refl _, (hR16.ext hE26), (hts22.dom (by intro k h1; have h2 := h1.2; refine ⟨?_, by omega⟩; replace h1 := h1.1; (repeat' first | (guard_hyp h1 : _ ∨ _; refine Or.elim h1 (fun h1 => ?_) (fun h1 => ?_)) | (guard_hyp h1 : _ ∧ _; have hx := h1.2; replace h1 := h1.1)) <;> first | exact h1.elim | exact .inr h1 | exact .inl (.inl ⟨h1, hx⟩) | exact .inl (.inr ⟨h1, hx⟩))), OwnV.nil _ _ _ _⟩⟩ ?_
  rintro ⟨k, v⟩ r_ w30 ⟨rfl, hE28, hI29⟩
  have hzhE28 := hE28.size
  dsimp only at hI29
  obtain ⟨hk, hWw, hR6, hts, hO⟩ := hI29
  have hD : ∀ k, ((((D k ∧ k < w.heap.size) ∨ (D2 k ∧ k < w.heap.size)) ∨ k = b22) ∧ k < w27.heap.size) → k < w27.heap.size := fun k h => h.2
  have hol := hO.own
  refine WC.weaken (r' := [(0, .int .u8 kind), (6, .pointer (some ⟨b13, 0, none⟩)), (12, .slice (some ⟨b22, 0, none⟩) 2 2), (13, .int .i64 2), (14, .int .i64 (k : Int)), (7, v)]) (subReg_cons rfl (subReg_cons rfl (subReg_cons rfl (subReg_cons rfl (subReg_cons rfl (subReg_cons rfl (subReg_nil _))))))) ?_
  refine WC.seqk ?_
  refine WC.region ?_
  cases hc31 : decide (((k : Int) : Int) < 2) with
  | false =>
    refine WL.lss rfl rfl rfl rfl hc31 ?_
    have hp31 := of_decide_eq_false hc31
    refine WL.done' ?_ (fun _ _ h => h)
    refine WC.seqk ?_
    refine WC.cond_f rfl ?_
    refine WC.exit (fun a_ ha => ?_)
    refine exit_then ?_
    refine exit_then ?_
    refine exit_here ?_
    refine WC.at ?_ ha
    refine WC.seqk ?_
    refine WC.seqk ?_
    refine WC.region ?_
    refine WL.move rfl rfl rfl ?_
    have hkk : k = 2 := by omega
    subst hkk
    have hOO : OwnV _ _ _ _ _ (Nd.flatJ kind [T, U]) := hO
    have hle32 := hOO.le
    obtain ⟨a32, cap32, rfl, hnn32, hx32⟩ := hOO.cases
    have hts32 := hOO.nodes.lt
    refine WL.len rfl rfl Try.underlying27 rfl ?_
    refine WL.done' ?_ (fun _ _ h => h)
    refine WC.block ?_
    refine WC.seqk ?_
    refine WC.region ?_
    cases hc33 : (((Nd.flatJ kind [T, U]).length : Int) == 0) with
    | false =>
      refine WL.eql rfl rfl rfl rfl hc33 ?_
      have hp33 := beq_eq_false_iff_ne.1 hc33
      refine WL.assign rfl rfl rfl ?_
      refine WL.done' ?_ (fun _ _ h => h)
      refine WC.cond_f rfl ?_
      refine WC.seqk ?_
      refine WC.region ?_
      cases hc34 : (((Nd.flatJ kind [T, U]).length : Int) == 1) with
      | false =>
        refine WL.eql rfl rfl rfl rfl hc34 ?_
        have hp34 := beq_eq_false_iff_ne.1 hc34
        refine WL.assign rfl rfl rfl ?_
        refine WL.done' ?_ (fun _ _ h => h)
        refine WC.cond_f rfl ?_
        refine WC.skip'' ?_ (fun _ _ h => h)
        refine WC.seqk ?_
        refine WC.region ?_
        refine WL.move rfl rfl rfl ?_
        refine WL.move rfl rfl rfl ?_
        refine WL.build (l := [.int .u8 kind, .int .u64 0, .int .u64 0, .int .u64 0, .int .u64 0, .int .i64 0, .int .i64 0, .slice a32 ((Nd.flatJ kind [T, U]).length) cap32]) rfl rfl Ty.zero29 Ty.st29 ⟨⟨rfl, rfl⟩, (by kernel_rfl)⟩ ?_
        have hn35 : NodeL _ w30 [.int .u8 kind, .int .u64 0, .int .u64 0, .int .u64 0, .int .u64 0, .int .i64 0, .int .i64 0, .slice a32 ((Nd.flatJ kind [T, U]).length) cap32] (Nd.mk kind Nd.zero 0 0 (Nd.flatJ kind [T, U])) := NodeL.shut (k := kind) (s := Nd.zero) (mn := 0) (mx := 0) (sl := .slice a32 ((Nd.flatJ kind [T, U]).length) cap32) (ts := (Nd.flatJ kind [T, U])) hts32
        have hn35 := hn35.lt
        refine WL.store_box rfl rfl rfl hR6 Ty.agg29 rfl rfl (fun w38 hB37 hR36 => ?_)
        have hzhB37 := hB37.size
        refine WL.done' ?_ (fun _ _ h => h)
        refine WC.ret (fun a_ ha => ?_)
        exact bodyPost_cell (l := [.int .u8 kind, .int .u64 0, .int .u64 0, .int .u64 0, .int .u64 0, .int .i64 0, .int .i64 0, .slice a32 ((Nd.flatJ kind [T, U]).length) cap32]) rfl ha rfl Ty.agg29 hR36 ⟨_, rfl, (by simp only [Nd.joins, Nd.joinsL, hc33, hc34, cond_false]; exact (hn35.but hB37 (by intro h1; first | omega | ((try dsimp only at h1); (repeat' first | (guard_hyp h1 : _ ∨ _; refine Or.elim h1 (fun h1 => ?_) (fun h1 => ?_)) | (guard_hyp h1 : _ ∧ _; have hx := h1.2; replace h1 := h1.1)) <;> first | contradiction | omega))).dom (by intro k h1; (try dsimp only at h1); (repeat' first | (guard_hyp h1 : _ ∨ _; refine Or.elim h1 (fun h1 => ?_) (fun h1 => ?_)) | (guard_hyp h1 : _ ∧ _; have hx := h1.2; replace h1 := h1.1)) <;> first | exact h1.elim | exact .inl (.inl h1) | exact .inl (.inr h1) | exact .inr (by omega))), (hB37.onto hE28 (by omega))⟩
      | true =>
        refine WL.eql rfl rfl rfl rfl hc34 ?_
        have hp34 := beq_iff_eq.1 hc34
        refine WL.assign rfl rfl rfl ?_
        refine WL.done' ?_ (fun _ _ h => h)
        refine WC.cond_t rfl ?_
        refine WC.seqk ?_
        refine WC.region ?_
        refine WL.move rfl rfl rfl ?_
        obtain ⟨t85, ht85⟩ : ∃ t, (Nd.flatJ kind [T, U])[0]? = some t := ⟨_, List.getElem?_eq_getElem (by omega)⟩
        obtain ⟨eb85, eo85, el85, hea85, hD85, her85, hn85⟩ := hts32.at ht85
        obtain ⟨sl85, rfl, hts85⟩ := hn85.opn
        obtain ⟨a85, cap85, rfl, hlen85, -⟩ := hts85.get
        subst hea85
        refine WL.indexAddr (i := 0) rfl rfl Ty.slice27 rfl rfl rfl (by omega) ?_
        refine WL.load_agg (l := tcells t85 (.slice a85 t85.subs.length cap85)) rfl rfl Ty.agg29 rfl her85 ?_
        refine WL.store_box rfl rfl rfl hR6 Ty.agg29 rfl rfl (fun w88 hB87 hR86 => ?_)
        have hzhB87 := hB87.size
        refine WL.done' ?_ (fun _ _ h => h)
        refine WC.ret (fun a_ ha => ?_)
        refine ret_block ?_
        refine ret_then ?_
        exact bodyPost_cell (l := [.int .u8 t85.kind, .int .u64 t85.set.a, .int .u64 t85.set.b, .int .u64 t85.set.c, .int .u64 t85.set.d, .int .i64 t85.least, .int .i64 t85.most, .slice a85 t85.subs.length cap85]) rfl ha rfl Ty.agg29 hR86 ⟨_, rfl, (by simp only [Nd.joins, Nd.joinsL, hc33, hc34, ht85, Option.getD_some, cond_true, cond_false]; exact (hn85.but hB87 (by intro h1; first | omega | ((try dsimp only at h1); (repeat' first | (guard_hyp h1 : _ ∨ _; refine Or.elim h1 (fun h1 => ?_) (fun h1 => ?_)) | (guard_hyp h1 : _ ∧ _; have hx := h1.2; replace h1 := h1.1)) <;> first | contradiction | omega))).dom (by intro k h1; (try dsimp only at h1); (repeat' first | (guard_hyp h1 : _ ∨ _; refine Or.elim h1 (fun h1 => ?_) (fun h1 => ?_)) | (guard_hyp h1 : _ ∧ _; have hx := h1.2; replace h1 := h1.1)) <;> first | exact h1.elim | exact .inl (.inl h1) | exact .inl (.inr h1) | exact .inr (by omega))), (hB87.onto hE28 (by omega))⟩
    | true =>
      refine WL.eql rfl rfl rfl rfl hc33 ?_
      have hp33 := beq_iff_eq.1 hc33
      refine WL.assign rfl rfl rfl ?_
      refine WL.done' ?_ (fun _ _ h => h)
      refine WC.cond_t rfl ?_
      refine WC.seqk ?_
      refine WC.region ?_
      refine WL.build (l := [.int .u8 1, .int .u64 0, .int .u64 0, .int .u64 0, .int .u64 0, .int .i64 0, .int .i64 0, .slice none 0 0]) rfl rfl Ty.zero29 Ty.st29 ⟨⟨rfl, rfl⟩, (by kernel_rfl)⟩ ?_
      have hn84 : NodeL _ w30 [.int .u8 1, .int .u64 0, .int .u64 0, .int .u64 0, .int .u64 0, .int .i64 0, .int .i64 0, .slice none 0 0] (Nd.mk 1 Nd.zero 0 0 ([])) := NodeL.shut (k := 1) (s := Nd.zero) (mn := 0) (mx := 0) (sl := .slice none 0 0) (ts := []) (NodesV.nil (fun _ => False) _ none 0)
      have hn84 := hn84.lt
      refine WL.store_box rfl rfl rfl hR6 Ty.agg29 rfl rfl (fun w87 hB86 hR85 => ?_)
      have hzhB86 := hB86.size
      refine WL.done' ?_ (fun _ _ h => h)
      refine WC.ret (fun a_ ha => ?_)
      refine ret_block ?_
      refine ret_then ?_
      exact bodyPost_cell (l := [.int .u8 1, .int .u64 0, .int .u64 0, .int .u64 0, .int .u64 0, .int .i64 0, .int .i64 0, .slice none 0 0]) rfl ha rfl Ty.agg29 hR85 ⟨_, rfl, (by simp only [Nd.joins, Nd.joinsL, hc33, cond_true]; exact (hn84.but hB86 (by intro h1; first | omega | ((try dsimp only at h1); (repeat' first | (guard_hyp h1 : _ ∨ _; refine Or.elim h1 (fun h1 => ?_) (fun h1 => ?_)) | (guard_hyp h1 : _ ∧ _; have hx := h1.2; replace h1 := h1.1)) <;> first | contradiction | omega))).dom (by intro k h1; (try dsimp only at h1); (repeat' first | (guard_hyp h1 : _ ∨ _; refine Or.elim h1 (fun h1 => ?_) (fun h1 => ?_)) | (guard_hyp h1 : _ ∧ _; have hx := h1.2; replace h1 := h1.1)) <;> first | exact h1.elim | exact .inl (.inl h1) | exact .inl (.inr h1) | exact .inr (by omega))), (hB86.onto hE28 (by omega))⟩
  | true =>
    refine WL.lss rfl rfl rfl rfl hc31 ?_
    have hp31 := of_decide_eq_true hc31
    refine WL.done' ?_ (fun _ _ h => h)
    refine WC.seqk ?_
    refine WC.cond_t rfl ?_
    refine WC.skip'' ?_ (fun _ _ h => h)
    refine WC.seqk ?_
    refine WC.block ?_
    refine WC.seqk ?_
    refine WC.region ?_
    obtain ⟨t82, ht82⟩ : ∃ t, [T, U][k]? = some t := ⟨_, List.getElem?_eq_getElem (by show k < 2; omega)⟩
    obtain ⟨eb82, eo82, el82, hea82, hD82, her82, hn82⟩ := hts.at ht82
    obtain ⟨sl82, rfl, hts82⟩ := hn82.opn
    obtain ⟨a82, cap82, rfl, hlen82, -⟩ := hts82.get
    cases hea82
    refine WL.indexAddr (i := k) rfl rfl Ty.slice27 rfl rfl rfl (by show k < 2; omega) ?_
    refine WL.load_agg (l := tcells t82 (.slice a82 t82.subs.length cap82)) rfl rfl Ty.agg29 rfl her82 ?_
    refine WL.alloc rfl rfl Ty.zero29 rfl (fun b83 w88 hb84 hE87 hs85 hR86 => ?_)
    refine WL.store_box rfl rfl rfl hR86 Ty.agg29 rfl rfl (fun w91 hB90 hR89 => ?_)
    have hzhB90 := hB90.size
    refine WL.done' ?_ (fun _ _ h => h)
    refine WC.block ?_
    refine WC.seqk ?_
    refine WC.region ?_
    refine WL.fieldAddr rfl rfl Ty.fld29_0 rfl ?_
    refine WL.load_fld rfl rfl Ty.flat5 rfl hR89 rfl ?_
    refine WL.move rfl rfl rfl ?_
    cases hc92 : ((t82.kind : Int) == kind) with
    | false =>
      refine WL.eql rfl rfl rfl rfl hc92 ?_
      have hp92 := beq_eq_false_iff_ne.1 hc92
      refine WL.assign rfl rfl rfl ?_
      refine WL.done' ?_ (fun _ _ h => h)
      refine WC.cond_f rfl ?_
      refine WC.seqk ?_
      refine WC.region ?_
      refine WL.move rfl rfl rfl ?_
      cases hc93 : ((kind : Int) == 3) with
      | false =>
        refine WL.eql rfl rfl rfl rfl hc93 ?_
        have hp93 := beq_eq_false_iff_ne.1 hc93
        refine WL.move rfl rfl rfl ?_
        refine WL.pass rfl rfl ?_
        refine WL.pass rfl rfl ?_
        refine WL.pass rfl rfl ?_
        refine WL.pick_f rfl rfl rfl rfl ?_
        refine WL.assign rfl rfl rfl ?_
        refine WL.done' ?_ (fun _ _ h => h)
        refine WC.cond_f rfl ?_
        refine WC.region ?_
        refine WL.move rfl rfl rfl ?_
        refine WL.load_box rfl rfl rfl hR89 Ty.agg29 ?_
        have h94 := ((hn82.ext hE87).but hB90 (by intro h1; first | omega | ((try dsimp only at h1); (repeat' first | (guard_hyp h1 : _ ∨ _; refine Or.elim h1 (fun h1 => ?_) (fun h1 => ?_)) | (guard_hyp h1 : _ ∧ _; have hx := h1.2; replace h1 := h1.1)) <;> first | contradiction | omega)))
        refine WL.buildSlice (vs := [.agg #[.int .u8 t82.kind, .int .u64 t82.set.a, .int .u64 t82.set.b, .int .u64 t82.set.c, .int .u64 t82.set.d, .int .i64 t82.least, .int .i64 t82.most, .slice a82 t82.subs.length cap82]]) (cells := [.int .u8 t82.kind, .int .u64 t82.set.a, .int .u64 t82.set.b, .int .u64 t82.set.c, .int .u64 t82.set.d, .int .i64 t82.least, .int .i64 t82.most, .slice a82 t82.subs.length cap82]) rfl rfl Ty.slice27 Ty.zero29 rfl rfl rfl rfl rfl rfl (fun b95 w100 hb96 hE99 hs97 hR98 => ?_)
        have hts95 := (NodesV.lit (n := 1) (ts := [t82]) hR98 (RowsL.cons (h94.ext hE99) (RowsL.nil' _)) rfl rfl (by decide)).lt
        have h101 := (((hO.ext hE87).but hB90 (fun h1 => by have := hD _ h1; first | omega | (dsimp only at h1; omega)) (fun hk => by have := (hO.ext hE87).own _ hk; have := hol _ hk; omega)).ext hE99)
        have hol102 := h101.own
        refine WL.append1 rfl rfl Ty.slice27 Ty.zero29 rfl small_node rfl rfl h101 hR98 (h94.ext hE99) (by intro k h1 hh; have := hol102 _ hh; have := hol _ hh; first | omega | ((try dsimp only at h1); (repeat' first | (guard_hyp h1 : _ ∨ _; refine Or.elim h1 (fun h1 => ?_) (fun h1 => ?_)) | (guard_hyp h1 : _ ∧ _; have hx := h1.2; replace h1 := h1.1)) <;> first | contradiction | omega)) (by have h1 := Nd.sizeL_take ht82; have h2 := Nd.flatJ_len kind ([T, U].take k); have h3 := Nd.size_subs t82; have h4 := Nd.length_le_sizeL t82.subs; have h5 : Nd.sizeL [T, U] = T.size + U.size := (by simp [Nd.sizeL]); omega) (by omega) ?_
        intro v102 w102 hG102 hO102 hv102
        have hE102 := grown_below hG102 ((hB90.onto (hE28.trans hE87) (by omega)).trans hE99) (by intro k hk; have := hol102 _ hk; omega)
        have hz102 := hE102.size
        have hzz102 := hG102.size
        refine WL.assign rfl rfl rfl ?_
        refine WL.done' ?_ (fun _ _ h => h)
        refine WC.region ?_
        refine WL.add (v := (k : Int) + 1) rfl rfl rfl rfl (IntWalk.i64_in _ (by omega)) ?_
        refine WL.move rfl rfl rfl ?_
        refine WL.nil (fun a_ ha => ?_)
        have h103 := (grown_row hG102 ((hB90.row (hR6.ext hE87) (by omega)).ext hE99) (fun hh => by have := hol102 _ hh; have := hol _ hh; omega))
        have h104 := ((((hts.ext hE87).but hB90 (by intro h1; first | omega | ((try dsimp only at h1); (repeat' first | (guard_hyp h1 : _ ∨ _; refine Or.elim h1 (fun h1 => ?_) (fun h1 => ?_)) | (guard_hyp h1 : _ ∧ _; have hx := h1.2; replace h1 := h1.1)) <;> first | contradiction | omega))).ext hE99).grown hG102 (by intro k h1 hlt hh; have := hol102 _ hh; have := hol _ hh; first | omega | ((try dsimp only at h1); (repeat' first | (guard_hyp h1 : _ ∨ _; refine Or.elim h1 (fun h1 => ?_) (fun h1 => ?_)) | (guard_hyp h1 : _ ∧ _; have hx := h1.2; replace h1 := h1.1)) <;> first | contradiction | omega)))
        exact ⟨(k + 1, v102), _, ha.weaken (subReg_cons rfl (subReg_cons rfl (subReg_cons rfl (subReg_cons rfl (subReg_cons rfl (subReg_cons rfl (subReg_nil _))))))), ⟨rfl, hE102, ⟨by first | omega | (dsimp only; omega), by omega, h103, h104, (by dsimp only; simp only [Nd.flatJ_succ _ ht82, Nd.flatJ1, hc92, hc93, cond_false, Bool.false_and]; exact hO102.dom (by first | exact fun _ h _ _ => h | (rintro k h _ _; rcases h with h | h; exact h; first | exact h | exact h.1)))⟩⟩, by first | omega | (dsimp only; omega)⟩
      | true =>
        refine WL.eql rfl rfl rfl rfl hc93 ?_
        have hp93 := beq_iff_eq.1 hc93
        refine WL.move rfl rfl rfl ?_
        refine WL.fieldAddr rfl rfl Ty.fld29_0 rfl ?_
        refine WL.load_fld rfl rfl Ty.flat5 rfl hR89 rfl ?_
        cases hc144 : ((t82.kind : Int) == 1) with
        | false =>
          refine WL.eql rfl rfl rfl rfl hc144 ?_
          have hp144 := beq_eq_false_iff_ne.1 hc144
          refine WL.pick_t rfl rfl rfl rfl ?_
          refine WL.assign rfl rfl rfl ?_
          refine WL.done' ?_ (fun _ _ h => h)
          refine WC.cond_f rfl ?_
          refine WC.region ?_
          refine WL.move rfl rfl rfl ?_
          refine WL.load_box rfl rfl rfl hR89 Ty.agg29 ?_
          have h145 := ((hn82.ext hE87).but hB90 (by intro h1; first | omega | ((try dsimp only at h1); (repeat' first | (guard_hyp h1 : _ ∨ _; refine Or.elim h1 (fun h1 => ?_) (fun h1 => ?_)) | (guard_hyp h1 : _ ∧ _; have hx := h1.2; replace h1 := h1.1)) <;> first | contradiction | omega)))
          refine WL.buildSlice (vs := [.agg #[.int .u8 t82.kind, .int .u64 t82.set.a, .int .u64 t82.set.b, .int .u64 t82.set.c, .int .u64 t82.set.d, .int .i64 t82.least, .int .i64 t82.most, .slice a82 t82.subs.length cap82]]) (cells := [.int .u8 t82.kind, .int .u64 t82.set.a, .int .u64 t82.set.b, .int .u64 t82.set.c, .int .u64 t82.set.d, .int .i64 t82.least, .int .i64 t82.most, .slice a82 t82.subs.length cap82]) rfl rfl Ty.slice27 Ty.zero29 rfl rfl rfl rfl rfl rfl (fun b146 w151 hb147 hE150 hs148 hR149 => ?_)
          have hts146 := (NodesV.lit (n := 1) (ts := [t82]) hR149 (RowsL.cons (h145.ext hE150) (RowsL.nil' _)) rfl rfl (by decide)).lt
          have h152 := (((hO.ext hE87).but hB90 (fun h1 => by have := hD _ h1; first | omega | (dsimp only at h1; omega)) (fun hk => by have := (hO.ext hE87).own _ hk; have := hol _ hk; omega)).ext hE150)
          have hol153 := h152.own
          refine WL.append1 rfl rfl Ty.slice27 Ty.zero29 rfl small_node rfl rfl h152 hR149 (h145.ext hE150) (by intro k h1 hh; have := hol153 _ hh; have := hol _ hh; first | omega | ((try dsimp only at h1); (repeat' first | (guard_hyp h1 : _ ∨ _; refine Or.elim h1 (fun h1 => ?_) (fun h1 => ?_)) | (guard_hyp h1 : _ ∧ _; have hx := h1.2; replace h1 := h1.1)) <;> first | contradiction | omega)) (by have h1 := Nd.sizeL_take ht82; have h2 := Nd.flatJ_len kind ([T, U].take k); have h3 := Nd.size_subs t82; have h4 := Nd.length_le_sizeL t82.subs; have h5 : Nd.sizeL [T, U] = T.size + U.size := (by simp [Nd.sizeL]); omega) (by omega) ?_
          intro v153 w153 hG153 hO153 hv153
          have hE153 := grown_below hG153 ((hB90.onto (hE28.trans hE87) (by omega)).trans hE150) (by intro k hk; have := hol153 _ hk; omega)
          have hz153 := hE153.size
          have hzz153 := hG153.size
          refine WL.assign rfl rfl rfl ?_
          refine WL.done' ?_ (fun _ _ h => h)
          refine WC.region ?_
          refine WL.add (v := (k : Int) + 1) rfl rfl rfl rfl (IntWalk.i64_in _ (by omega)) ?_
          refine WL.move rfl rfl rfl ?_
          refine WL.nil (fun a_ ha => ?_)
          have h154 := (grown_row hG153 ((hB90.row (hR6.ext hE87) (by omega)).ext hE150) (fun hh => by have := hol153 _ hh; have := hol _ hh; omega))
          have h155 := ((((hts.ext hE87).but hB90 (by intro h1; first | omega | ((try dsimp only at h1); (repeat' first | (guard_hyp h1 : _ ∨ _; refine Or.elim h1 (fun h1 => ?_) (fun h1 => ?_)) | (guard_hyp h1 : _ ∧ _; have hx := h1.2; replace h1 := h1.1)) <;> first | contradiction | omega))).ext hE150).grown hG153 (by intro k h1 hlt hh; have := hol153 _ hh; have := hol _ hh; first | omega | ((try dsimp only at h1); (repeat' first | (guard_hyp h1 : _ ∨ _; refine Or.elim h1 (fun h1 => ?_) (fun h1 => ?_)) | (guard_hyp h1 : _ ∧ _; have hx := h1.2; replace h1 := h1.1)) <;> first | contradiction | omega)))
          exact ⟨(k + 1, v153), _, ha.weaken (subReg_cons rfl (subReg_cons rfl (subReg_cons rfl (subReg_cons rfl (subReg_cons rfl (subReg_cons rfl (subReg_nil _))))))), ⟨rfl, hE153, ⟨by first | omega | (dsimp only; omega), by omega, h154, h155, (by dsimp only; simp only [Nd.flatJ_succ _ ht82, Nd.flatJ1, hc92, hc93, hc144, cond_false, Bool.true_and]; exact hO153.dom (by first | exact fun _ h _ _ => h | (rintro k h _ _; rcases h with h | h; exact h; first | exact h | exact h.1)))⟩⟩, by first | omega | (dsimp only; omega)⟩
        | true =>
          refine WL.eql rfl rfl rfl rfl hc144 ?_
          have hp144 := beq_iff_eq.1 hc144
          refine WL.pick_t rfl rfl rfl rfl ?_
          refine WL.assign rfl rfl rfl ?_
          refine WL.done' ?_ (fun _ _ h => h)
          refine WC.cond_t rfl ?_
          refine WC.skip'' ?_ (fun _ _ h => h)
          refine WC.region ?_
          refine WL.add (v := (k : Int) + 1) rfl rfl rfl rfl (IntWalk.i64_in _ (by omega)) ?_
          refine WL.move rfl rfl rfl ?_
          refine WL.nil (fun a_ ha => ?_)
          have h195 := ((hO.ext hE87).but hB90 (fun h1 => by have := hD _ h1; first | omega | (dsimp only at h1; omega)) (fun hk => by have := (hO.ext hE87).own _ hk; have := hol _ hk; omega))
          have h196 := (hB90.row (hR6.ext hE87) (by omega))
          have h197 := ((hts.ext hE87).but hB90 (by intro h1; first | omega | ((try dsimp only at h1); (repeat' first | (guard_hyp h1 : _ ∨ _; refine Or.elim h1 (fun h1 => ?_) (fun h1 => ?_)) | (guard_hyp h1 : _ ∧ _; have hx := h1.2; replace h1 := h1.1)) <;> first | contradiction | omega)))
          exact ⟨(k + 1, v), _, ha.weaken (subReg_cons rfl (subReg_cons rfl (subReg_cons rfl (subReg_cons rfl (subReg_cons rfl (subReg_cons rfl (subReg_nil _))))))), ⟨rfl, (hB90.onto (hE28.trans hE87) (by omega)), ⟨by first | omega | (dsimp only; omega), by omega, h196, h197, (by dsimp only; simp only [Nd.flatJ_succ _ ht82, Nd.flatJ1, hc92, hc93, hc144, cond_true, cond_false, List.append_nil, Bool.true_and]; exact h195.dom (by first | exact fun _ h _ _ => h | (rintro k h _ _; rcases h with h | h; exact h; first | exact h | exact h.1)))⟩⟩, by first | omega | (dsimp only; omega)⟩
    | true =>
      refine WL.eql rfl rfl rfl rfl hc92 ?_
      have hp92 := beq_iff_eq.1 hc92
      refine WL.assign rfl rfl rfl ?_
      refine WL.done' ?_ (fun _ _ h => h)
      refine WC.cond_t rfl ?_
      refine WC.region ?_
      refine WL.move rfl rfl rfl ?_
      refine WL.fieldAddr rfl rfl Ty.fld29_4 rfl ?_
      refine WL.load_fld rfl rfl Ty.flat27 rfl hR89 rfl ?_
      have h143 := ((hO.ext hE87).but hB90 (fun h1 => by have := hD _ h1; first | omega | (dsimp only at h1; omega)) (fun hk => by have := (hO.ext hE87).own _ hk; have := hol _ hk; omega))
      have hol144 := h143.own
      have h145 := ((hts82.ext hE87).but hB90 (by intro h1; first | omega | ((try dsimp only at h1); (repeat' first | (guard_hyp h1 : _ ∨ _; refine Or.elim h1 (fun h1 => ?_) (fun h1 => ?_)) | (guard_hyp h1 : _ ∧ _; have hx := h1.2; replace h1 := h1.1)) <;> first | contradiction | omega)))
      refine WL.appendV rfl rfl Ty.slice27 Ty.zero29 rfl small_node rfl rfl h143 h145 (by intro k h1 hh; have := hol144 _ hh; have := hol _ hh; first | omega | ((try dsimp only at h1); (repeat' first | (guard_hyp h1 : _ ∨ _; refine Or.elim h1 (fun h1 => ?_) (fun h1 => ?_)) | (guard_hyp h1 : _ ∧ _; have hx := h1.2; replace h1 := h1.1)) <;> first | contradiction | omega)) (by have h1 := Nd.sizeL_take ht82; have h2 := Nd.flatJ_len kind ([T, U].take k); have h3 := Nd.size_subs t82; have h4 := Nd.length_le_sizeL t82.subs; have h5 : Nd.sizeL [T, U] = T.size + U.size := (by simp [Nd.sizeL]); omega) (by omega) ?_
      intro v144 w144 hG144 hO144 hv144
      have hE144 := grown_below hG144 (hB90.onto (hE28.trans hE87) (by omega)) (by intro k hk; have := hol144 _ hk; omega)
      have hz144 := hE144.size
      have hzz144 := hG144.size
      refine WL.assign rfl rfl rfl ?_
      refine WL.done' ?_ (fun _ _ h => h)
      refine WC.region ?_
      refine WL.add (v := (k : Int) + 1) rfl rfl rfl rfl (IntWalk.i64_in _ (by omega)) ?_
      refine WL.move rfl rfl rfl ?_
      refine WL.nil (fun a_ ha => ?_)
      have h146 := (grown_row hG144 (hB90.row (hR6.ext hE87) (by omega)) (fun hh => by have := hol144 _ hh; have := hol _ hh; omega))
      have h147 := (((hts.ext hE87).but hB90 (by intro h1; first | omega | ((try dsimp only at h1); (repeat' first | (guard_hyp h1 : _ ∨ _; refine Or.elim h1 (fun h1 => ?_) (fun h1 => ?_)) | (guard_hyp h1 : _ ∧ _; have hx := h1.2; replace h1 := h1.1)) <;> first | contradiction | omega))).grown hG144 (by intro k h1 hlt hh; have := hol144 _ hh; have := hol _ hh; first | omega | ((try dsimp only at h1); (repeat' first | (guard_hyp h1 : _ ∨ _; refine Or.elim h1 (fun h1 => ?_) (fun h1 => ?_)) | (guard_hyp h1 : _ ∧ _; have hx := h1.2; replace h1 := h1.1)) <;> first | contradiction | omega)))
      exact ⟨(k + 1, v144), _, ha.weaken (subReg_cons rfl (subReg_cons rfl (subReg_cons rfl (subReg_cons rfl (subReg_cons rfl (subReg_cons rfl (subReg_nil _))))))), ⟨rfl, hE144, ⟨by first | omega | (dsimp only; omega), by omega, h146, h147, (by dsimp only; simp only [Nd.flatJ_succ _ ht82, Nd.flatJ1, hc92, cond_true]; exact hO144.dom (by first | exact fun _ h _ _ => h | (rintro k h _ _; rcases h with h | h; exact h; first | exact h | exact h.1)))⟩⟩, by first | omega | (dsimp only; omega)⟩

end Go.Proofs.Ytaggidjijekpbaa
