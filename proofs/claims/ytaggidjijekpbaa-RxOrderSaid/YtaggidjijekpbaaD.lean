/- Walks through the program's functions: each computes what the plain Lean function says. Printed by our own gen/r8.py. -/
import Derived.Test.YtaggidjijekpbaaC
import Derived.Test.YtaggidjijekpbaaApp
import Derived.KernelRfl
namespace Go.Proofs.Ytaggidjijekpbaa
open Go.Proofs Go.RowKit

theorem small_node : smallB Try.prog 29 = true := by kernel_rfl
set_option maxRecDepth 20000 in
set_option maxHeartbeats 4000000 in
theorem clone_ok (D : Nat → Prop) (w : World) (a : Option Addr) (cap : Nat) (ts : List Nd) (hts : NodesV D w (.slice a ts.length cap) ts) (hD : ∀ k, D k → k < w.heap.size) (hle : ts.length ≤ 1000000000) :
    Calls Try.prog 48 #[.slice a ts.length cap] w fun e w' => ∃ v, e = .returned v ∧ OwnV 29 w.heap.size D w' v ts ∧ Ext w w' := by
  refine Calls.enter (args := [.slice a ts.length cap]) Try.func48 rfl rfl rfl rfl ?_
  refine WC.seqk ?_
  refine WC.region ?_
  refine WL.assign rfl rfl rfl ?_
  refine WL.done' ?_ (fun _ _ h => h)
  refine WC.seqk ?_
  refine WC.seqk ?_
  refine WC.region ?_
  refine WL.move rfl rfl rfl ?_
  cases a with
  | none =>
    refine WL.sliceNil rfl rfl Try.underlying27 rfl rfl rfl ?_
    refine WL.done' ?_ (fun _ _ h => h)
    refine WC.cond_t rfl ?_
    refine WC.seqk ?_
    refine WC.region ?_
    refine WL.assign rfl rfl rfl ?_
    refine WL.done' ?_ (fun _ _ h => h)
    refine WC.ret (fun a_ ha => ?_)
    refine ret_then ?_
    exact bodyPost_tmp rfl ha rfl ⟨_, rfl, (by have := hts.none; subst this; exact OwnV.nil _ _ _ _), (Ext.refl _)⟩
  | some ad =>
    refine WL.sliceNil rfl rfl Try.underlying27 rfl rfl rfl ?_
    refine WL.done' ?_ (fun _ _ h => h)
    refine WC.cond_f rfl ?_
    refine WC.skip'' ?_ (fun _ _ h => h)
    refine WC.seqk ?_
    refine WC.region ?_
    refine WL.buildSlice0 rfl rfl Ty.slice27 (fun b51 w56 hb52 hE55 hs53 hR54 => ?_)
    refine WL.move rfl rfl rfl ?_
    have hO57 := OwnV.empty (base := w.heap.size) (D := fun _ => False) (Nat.le_of_eq hb52.symm) hR54
    have hol58 := hO57.own
    refine WL.appendV rfl rfl Ty.slice27 Ty.zero29 rfl small_node rfl rfl hO57 (hts.ext hE55) (by intro k h1 hh; have := hD k h1; have := hol58 _ hh; first | omega | ((try dsimp only at h1); (repeat' first | (guard_hyp h1 : _ ∨ _; refine Or.elim h1 (fun h1 => ?_) (fun h1 => ?_)) | (guard_hyp h1 : _ ∧ _; have hx := h1.2; replace h1 := h1.1)) <;> first | contradiction | omega)) (by simp; omega) (by omega) ?_
    intro v58 w58 hG58 hO58 hv58
    have hE58 := grown_below hG58 hE55 (by intro k hk; have := hol58 _ hk; omega)
    have hz58 := hE58.size
    have hzz58 := hG58.size
    refine WL.assign rfl rfl rfl ?_
    refine WL.done' ?_ (fun _ _ h => h)
    refine WC.ret (fun a_ ha => ?_)
    exact bodyPost_tmp rfl ha rfl ⟨_, rfl, hO58.dom (by rintro k (h | h) _ _ <;> first | exact h.elim | exact h), hE58⟩

set_option maxRecDepth 20000 in
set_option maxHeartbeats 4000000 in
theorem copied_ok (T : Nd) : ∀ (D : Nat → Prop) (w : World) (l : List Value) (_hT : NodeL D w l T) (_hsz : T.size ≤ 10000),
    Calls Try.prog 41 #[.agg l.toArray] w fun e w' => ∃ l', e = .returned (.agg l'.toArray) ∧ NodeL (fun k => w.heap.size ≤ k) w' l' T ∧ Ext w w' := by
  induction T using Nd.ind with
  | h kd st mn mx tsx ih =>
  intro D w l hT hsz
  replace ih : ∀ t, t ∈ (Nd.mk kd st mn mx tsx).subs → _ := ih
  generalize Nd.mk kd st mn mx tsx = T at *
  clear kd st mn mx tsx
  have hT := hT.lt
  obtain ⟨sl, rfl, hts⟩ := hT.opn
  obtain ⟨a, cap, rfl, hlen, -⟩ := hts.get
  have hls := Nd.length_le_sizeL T.subs
  have hss := Nd.size_subs T
  refine Calls.enter (args := [.agg #[.int .u8 T.kind, .int .u64 T.set.a, .int .u64 T.set.b, .int .u64 T.set.c, .int .u64 T.set.d, .int .i64 T.least, .int .i64 T.most, .slice a T.subs.length cap]]) Try.func41 rfl rfl rfl rfl ?_
  refine WC.seqk ?_
  refine WC.region ?_
  refine WL.box_agg rfl rfl rfl (fun b1 w6 hb2 hE5 hs3 hR4 => ?_)
  refine WL.alloc rfl rfl Ty.zero29 rfl (fun b7 w12 hb8 hE11 hs9 hR10 => ?_)
  refine WL.done' ?_ (fun _ _ h => h)
  refine WC.seqk ?_
  refine WC.region ?_
  refine WL.fieldAddr rfl rfl Ty.fld29_4 rfl ?_
  refine WL.load_fld rfl rfl Ty.flat27 rfl (hR4.ext hE11) rfl ?_
  have h14 := ((hts.ext hE5).ext hE11)
  refine WL.call rfl rfl rfl Ty.ent48 (clone_ok _ _ _ _ T.subs h14 (fun k hk => by have := hk.2; omega) (by omega)) ?_
  rintro _ w16 ⟨v13, rfl, hO13, hE15⟩
  have hzhE15 := hE15.size
  refine ⟨_, rfl, ?_⟩
  obtain ⟨a13, cap13, rfl, hn13, hx13⟩ := hO13.cases
  have hM13 : MixV 29 w12.heap.size (fun i b => ((i < 0 ∧ w12.heap.size ≤ b) ∨ (¬ i < 0 ∧ b < w.heap.size)) ∧ b < w12.heap.size) _ _ _ := hO13.mix.dom (by rintro i k _ ⟨h1, h2⟩ h3 _; (try dsimp only); omega)
  refine WL.fieldAddr rfl rfl Ty.fld29_4 rfl ?_
  have h19 := ((hR4.ext hE11).ext hE15)
  refine WL.store_fld rfl Ty.flat27 rfl rfl h19 rfl rfl (Nat.le_of_ble_eq_true rfl) rfl (fun w20 hB18 hR17 => ?_)
  have hzhB18 := hB18.size
  refine WL.done' ?_ (fun _ _ h => h)
  refine WC.seqk ?_
  refine WC.seqk ?_
  refine WC.region ?_
  refine WL.fieldAddr rfl rfl Ty.fld29_4 rfl ?_
  refine WL.load_fld rfl rfl Ty.flat27 rfl hR17 rfl ?_
  refine WL.len rfl rfl Try.underlying27 rfl ?_
  refine WL.move rfl rfl rfl ?_
  refine WL.done' ?_ (fun _ _ h => h)
  refine WC.block ?_
  have h21 := (hB18.row (hR10.ext hE15) (by omega))
  refine WC.weaken (r' := [(1, .pointer (some ⟨b1, 0, none⟩)), (2, .pointer (some ⟨b7, 0, none⟩)), (10, .slice a13 T.subs.length cap13), (11, .int .i64 T.subs.length), (12, .int .i64 0)]) (subReg_cons rfl (subReg_cons rfl (subReg_cons rfl (subReg_cons rfl (subReg_cons rfl (subReg_nil _)))))) ?_
  refine WC.loop (σ := Nat) (fun k r_ w_ => r_ = [(1, .pointer (some ⟨b1, 0, none⟩)), (2, .pointer (some ⟨b7, 0, none⟩)), (10, .slice a13 T.subs.length cap13), (11, .int .i64 T.subs.length), (12, .int .i64 (k : Int))] ∧ Ext w w_ ∧ (k ≤ T.subs.length ∧ Row w_ b1 [.int .u8 T.kind, .int .u64 T.set.a, .int .u64 T.set.b, .int .u64 T.set.c, .int .u64 T.set.d, .int .i64 T.least, .int .i64 T.most, .slice a13 T.subs.length cap13] 29 ∧ Row w_ b7 [.int .u8 0, .int .u64 0, .int .u64 0, .int .u64 0, .int .u64 0, .int .i64 0, .int .i64 0, .slice none 0 0] 29 ∧ MixV 29 w12.heap.size (fun i b => ((i < k ∧ w12.heap.size ≤ b) ∨ (¬ i < k ∧ b < w.heap.size))) w_ (.slice a13 T.subs.length cap13) T.subs)) (fun k => T.subs.length - k) 0 ⟨rfl, (hB18.onto ((hE5.trans hE11).trans hE15) (by omega)), ⟨Nat.zero_le _, hR17, h21, (hM13.but hB18 (by rintro i hi ⟨h1, h2⟩; first | omega | (dsimp only at h1; omega)) (fun hk => by have := hM13.block _ hk; omega)).dom (fun i k _ h _ _ => h.1)⟩⟩ ?_
  rintro k r_ w24 ⟨rfl, hE22, hI23⟩
  have hzhE22 := hE22.size
  obtain ⟨hk, hR1, hR2, hM⟩ := hI23
  have hM := hM.dom (DD' := fun i b => (((i < k ∧ w12.heap.size ≤ b) ∨ (¬ i < k ∧ b < w.heap.size)) ∧ b < w24.heap.size)) (fun i b _ h hlt _ => ⟨h, hlt⟩)
  have hMb := hM.block
  refine WC.seqk ?_
  refine WC.region ?_
  cases hc25 : decide (((k : Int) : Int) < T.subs.length) with
  | false =>
    refine WL.lss rfl rfl rfl rfl hc25 ?_
    have hp25 := of_decide_eq_false hc25
    refine WL.done' ?_ (fun _ _ h => h)
    refine WC.seqk ?_
    refine WC.cond_f rfl ?_
    refine WC.exit (fun a_ ha => ?_)
    refine exit_then ?_
    refine exit_then ?_
    refine exit_here ?_
    refine WC.at ?_ ha
    refine WC.seqk ?_
    refine WC.region ?_
    refine WL.load_box rfl rfl rfl hR1 Ty.agg29 ?_
    refine WL.store_box rfl rfl rfl hR2 Ty.agg29 rfl rfl (fun w28 hB27 hR26 => ?_)
    have hzhB27 := hB27.size
    refine WL.done' ?_ (fun _ _ h => h)
    refine WC.ret (fun a_ ha => ?_)
    exact bodyPost_cell (l := [.int .u8 T.kind, .int .u64 T.set.a, .int .u64 T.set.b, .int .u64 T.set.c, .int .u64 T.set.d, .int .i64 T.least, .int .i64 T.most, .slice a13 T.subs.length cap13]) rfl ha rfl Ty.agg29 hR26 ⟨_, rfl, NodeL.mk' (((hM.but hB27 (by rintro i hi ⟨h1, h2⟩; first | omega | (dsimp only at h1; omega)) (fun hk => by have := hM.block _ hk; have := hMb _ hk; omega)).own (D := fun k => w.heap.size ≤ k) (by rintro i b hi h1 h2 h3; (try dsimp only at h1); omega)).nodes.dom (by rintro b (h | h) <;> omega)), (hB27.onto hE22 (by omega))⟩
  | true =>
    refine WL.lss rfl rfl rfl rfl hc25 ?_
    have hp25 := of_decide_eq_true hc25
    refine WL.done' ?_ (fun _ _ h => h)
    refine WC.seqk ?_
    refine WC.cond_t rfl ?_
    refine WC.skip'' ?_ (fun _ _ h => h)
    refine WC.seqk ?_
    refine WC.block ?_
    refine WC.seqk ?_
    refine WC.region ?_
    refine WL.move rfl rfl rfl ?_
    obtain ⟨t76, ht76⟩ : ∃ t, T.subs[k]? = some t := ⟨_, List.getElem?_eq_getElem (by omega)⟩
    obtain ⟨eb76, el76, hea76, hgb76, hgl76, her76, hn76⟩ := hM.at ht76
    obtain ⟨sl76, rfl, hts76⟩ := hn76.opn
    obtain ⟨a76, cap76, rfl, hlen76, -⟩ := hts76.get
    subst hea76
    refine WL.indexAddr (i := k) rfl rfl Ty.slice27 rfl rfl rfl (by omega) ?_
    refine WL.load_agg (l := tcells t76 (.slice a76 t76.subs.length cap76)) rfl rfl Ty.agg29 rfl her76 ?_
    refine WL.alloc rfl rfl Ty.zero29 rfl (fun b77 w82 hb78 hE81 hs79 hR80 => ?_)
    refine WL.assign rfl rfl rfl ?_
    refine WL.store_box rfl rfl rfl hR80 Ty.agg29 rfl rfl (fun w85 hB84 hR83 => ?_)
    have hzhB84 := hB84.size
    refine WL.done' ?_ (fun _ _ h => h)
    have h86 := ((hM.ext hE81).but hB84 (by rintro i hi ⟨h1, h2⟩; first | omega | (dsimp only at h1; omega)) (fun hk => by have := (hM.ext hE81).block _ hk; have := hMb _ hk; omega))
    have h87 := ((hn76.ext hE81).but hB84 (by intro h1; first | omega | ((try dsimp only at h1); (repeat' first | (guard_hyp h1 : _ ∨ _; refine Or.elim h1 (fun h1 => ?_) (fun h1 => ?_)) | (guard_hyp h1 : _ ∧ _; have hx := h1.2; replace h1 := h1.1)) <;> first | contradiction | omega)))
    have h88 := (hB84.row (hR1.ext hE81) (by omega))
    have h89 := (hB84.row (hR2.ext hE81) (by omega))
    refine WC.weaken (r' := [(1, .pointer (some ⟨b1, 0, none⟩)), (2, .pointer (some ⟨b7, 0, none⟩)), (10, .slice (some ⟨eb76, 0, none⟩) T.subs.length cap13), (11, .int .i64 T.subs.length), (12, .int .i64 (k : Int)), (13, .bool true), (14, .int .i64 (k : Int)), (15, .pointer (some ⟨eb76, 0 + k * 8, none⟩)), (16, .agg #[.int .u8 t76.kind, .int .u64 t76.set.a, .int .u64 t76.set.b, .int .u64 t76.set.c, .int .u64 t76.set.d, .int .i64 t76.least, .int .i64 t76.most, .slice a76 t76.subs.length cap76]), (4, .pointer (some ⟨b77, 0, none⟩)), (3, .int .i64 (k : Int))]) (subReg_cons rfl (subReg_cons rfl (subReg_cons rfl (subReg_cons rfl (subReg_cons rfl (subReg_cons rfl (subReg_cons rfl (subReg_cons rfl (subReg_cons rfl (subReg_cons rfl (subReg_cons rfl (subReg_nil _)))))))))))) ?_
    refine WC.draw 5 [17, 18, 19, 20, 21] [pc (.pointer (some ⟨b1, 7, none⟩)), pc (.slice (some ⟨eb76, 0, none⟩) T.subs.length cap13), pc (.int .i64 (k : Int)), pc (.agg #[.int .u8 t76.kind, .int .u64 t76.set.a, .int .u64 t76.set.b, .int .u64 t76.set.c, .int .u64 t76.set.d, .int .i64 t76.least, .int .i64 t76.most, .slice a76 t76.subs.length cap76]), pnode (fun k => w85.heap.size ≤ k) t76] (by kernel_rfl) (by kernel_rfl) ⟨KW_pc _, KW_pc _, KW_pc _, KW_pc _, KW_pnode _ _, trivial⟩ rfl rfl rfl (StepsOn.cons ?_ (StepsOn.cons ?_ (StepsOn.cons ?_ (StepsOn.cons ?_ (StepsOn.cons ?_ (StepsOn.nil _)))))) ?_
    · intro σ β w1 hE1 hbi hk
      have hz1 := hE1.size
      refine ⟨[], (agree_nil _), ?_⟩
      refine WL.fieldAddr rfl rfl Ty.fld29_4 rfl ?_
      refine WL.nil (fun a_ ha => ?_)
      exact ⟨_, β, ha, (Ext.refl _), BExt.refl _ _, hbi.ext (Ext.refl _), rfl⟩
    · intro σ β w1 hE1 hbi hk
      have hz1 := hE1.size
      obtain ⟨_, hv1290, rfl⟩ := hk 0 (by kernel_rfl) _ _ rfl rfl
      refine ⟨[(17, .pointer (some ⟨b1, 7, none⟩))], (agree_cons (look_right rfl hv1290) (agree_nil _)), ?_⟩
      refine WL.load_fld rfl rfl Ty.flat27 rfl (h88.ext hE1) rfl ?_
      refine WL.nil (fun a_ ha => ?_)
      exact ⟨_, β, ha, (Ext.refl _), BExt.refl _ _, hbi.ext (Ext.refl _), rfl⟩
    · intro σ β w1 hE1 hbi hk
      have hz1 := hE1.size
      refine ⟨[], (agree_nil _), ?_⟩
      refine WL.move rfl rfl rfl ?_
      refine WL.nil (fun a_ ha => ?_)
      exact ⟨_, β, ha, (Ext.refl _), BExt.refl _ _, hbi.ext (Ext.refl _), rfl⟩
    · intro σ β w1 hE1 hbi hk
      have hz1 := hE1.size
      refine ⟨[], (agree_nil _), ?_⟩
      refine WL.load_box rfl rfl rfl (hR83.ext hE1) Ty.agg29 ?_
      refine WL.nil (fun a_ ha => ?_)
      exact ⟨_, β, ha, (Ext.refl _), BExt.refl _ _, hbi.ext (Ext.refl _), rfl⟩
    · intro σ β w1 hE1 hbi hk
      have hz1 := hE1.size
      obtain ⟨_, hv1590, rfl⟩ := hk 3 (by kernel_rfl) _ _ rfl rfl
      refine ⟨[(20, .agg #[.int .u8 t76.kind, .int .u64 t76.set.a, .int .u64 t76.set.b, .int .u64 t76.set.c, .int .u64 t76.set.d, .int .i64 t76.least, .int .i64 t76.most, .slice a76 t76.subs.length cap76])], (agree_cons (look_right rfl hv1590) (agree_nil _)), ?_⟩
      refine WL.call rfl rfl rfl Ty.ent41 (ih t76 (List.mem_of_getElem? ht76) _ _ _ (h87.ext hE1) (by have := Nd.size_le_sizeL (List.mem_of_getElem? ht76); have := Nd.size_subs T; omega)) ?_
      rintro _ w1593 ⟨l1591, rfl, hr1591, hE1592⟩
      have hzhE1592 := hE1592.size
      refine ⟨_, rfl, ?_⟩
      have hn1591 := hr1591.lt
      obtain ⟨sl1591, rfl, hts1591⟩ := hn1591.opn
      obtain ⟨a1591, cap1591, rfl, hlen1591, -⟩ := hts1591.get
      refine WL.nil (fun a_ ha => ?_)
      exact ⟨_, β, ha, hE1592, BExt.refl _ _, hbi.ext hE1592, ⟨_, rfl, (hr1591.off0 hbi (fun k hk => Nat.le_trans hE1.size hk))⟩⟩
    intro σ β w989 hE989 hbi989 hk
    have hz989 := hE989.size
    have hbi := hbi989
    obtain ⟨_, hv990, rfl⟩ := hk 1 (by decide) _ _ rfl rfl
    obtain ⟨_, hv991, rfl⟩ := hk 2 (by decide) _ _ rfl rfl
    obtain ⟨_, hv992, l992, rfl, hn992⟩ := hk 4 (by decide) _ _ rfl rfl
    have hn992 := hn992.lt
    obtain ⟨sl992, rfl, hts992⟩ := hn992.opn
    obtain ⟨a992, cap992, rfl, hlen992, -⟩ := hts992.get
    refine WL.know [(18, .slice (some ⟨eb76, 0, none⟩) T.subs.length cap13), (19, .int .i64 (k : Int)), (21, .agg #[.int .u8 t76.kind, .int .u64 t76.set.a, .int .u64 t76.set.b, .int .u64 t76.set.c, .int .u64 t76.set.d, .int .i64 t76.least, .int .i64 t76.most, .slice a992 t76.subs.length cap992])] (agree_cons (look_right rfl hv990) (agree_cons (look_right rfl hv991) (agree_cons (look_right rfl hv992) (agree_nil _)))) ?_
    refine WL.indexAddr (i := k) rfl rfl Ty.slice27 rfl rfl rfl (by omega) ?_
    refine WL.storeV (i := k) (T := t76) rfl Ty.agg29 rfl rfl (h86.ext hE989) (by omega) hn992 (by first | (rintro k ⟨h1, h2⟩ h3; first | omega | (dsimp only at h1; omega))) (fun w995 hB994 hM993 => ?_)
    have hzhB994 := hB994.size
    refine WL.done' ?_ (fun _ _ h => h)
    refine WC.region ?_
    refine WL.add (v := (k : Int) + 1) rfl rfl rfl rfl (IntWalk.i64_in _ (by omega)) ?_
    refine WL.move rfl rfl rfl ?_
    refine WL.nil (fun a_ ha => ?_)
    have h996 := (hB994.row (h88.ext hE989) (by omega))
    have h997 := (hB994.row (h89.ext hE989) (by omega))
    exact ⟨k + 1, _, ha.weaken (subReg_cons rfl (subReg_cons rfl (subReg_cons rfl (subReg_cons rfl (subReg_cons rfl (subReg_nil _)))))), ⟨rfl, (hB994.onto ((hB84.onto (hE22.trans hE81) (by omega)).trans hE989) (by omega)), ⟨by omega, h996, h997, (by have hq := hM993; rw [set_self ht76] at hq; exact hq.dom (by rintro j b hj h1 h2 h3; (try dsimp only at h1 ⊢); omega))⟩⟩, by first | omega | (dsimp only; omega)⟩

end Go.Proofs.Ytaggidjijekpbaa
