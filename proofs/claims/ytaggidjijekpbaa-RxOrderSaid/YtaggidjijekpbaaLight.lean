/- Light, Clean, Size, Groups: the callers of the iterator over a tree's nodes. -/
import Derived.Test.YtaggidjijekpbaaNodes
import Derived.Test.YtaggidjijekpbaaA
namespace Go.Proofs.Ytaggidjijekpbaa
open Go.RowKit

theorem light_le {T : Nd} (h : T.light = true) : T.pre.length ≤ 10000 := by rw [Nd.pre_length]; simpa [Nd.light] using h

set_option maxRecDepth 20000 in
theorem light_ok (D : Nat → Prop) (w : World) (l : List Value) (T : Nd) (hT : NodeL D w l T) :
    Calls Try.prog 35 #[.agg l.toArray] w fun e w' => e = .returned (.bool T.light) ∧ Ext w w' := by
  have hTl := hT.lt
  obtain ⟨sl, rfl, hts⟩ := hT.opn
  obtain ⟨a, cap, rfl, hlen, -⟩ := hts.get
  refine Calls.enterM (args := [.agg (tcells T (.slice a T.subs.length cap)).toArray]) Try.func35 rfl rfl rfl rfl ?_
  refine WC.seqk ?_
  refine WC.region ?_
  refine WL.box_agg rfl rfl rfl (fun b1 w1 hb1 hE1 hs1 hR1 => ?_)
  refine WL.assign rfl rfl rfl ?_
  refine WL.done' ?_ (fun _ _ h => h)
  refine WC.scope ?_
  refine WC.seqk ?_
  refine WC.region ?_
  refine WL.alloc rfl rfl Ty.zero3 rfl (fun b2 w2 hb2 hE2 hs2 hR2 => ?_)
  refine WL.store_cell rfl Ty.flat3 rfl rfl hR2 rfl rfl (fun w3 hB3 hR3 => ?_)
  have hE3 : Ext w1 w3 := hB3.below hE2 (by omega)
  have hz3 := hB3.size
  refine WL.done' ?_ (fun _ _ h => h)
  refine WC.seqk ?_
  refine WC.label' ?_ (fun _ _ h => h)
  refine WC.seqk ?_
  refine WC.seqk ?_
  refine WC.region ?_
  refine WL.load_box rfl rfl rfl (hR1.ext hE3) Ty.agg29 ?_
  refine WL.call rfl rfl rfl Ty.ent36 (nodes_ok _ _ rfl) ?_
  rintro e w4 ⟨b4, rfl, hE4, hR4, hb4, hs4⟩
  refine ⟨_, rfl, ?_⟩
  refine WL.done' ?_ (fun _ _ h => h)
  refine WC.block ?_
  have hR34 : Row w4 b2 _ _ := hR3.ext hE4
  refine WC.rangeFunc rfl rfl Ty.ent45 (nodes_iter hR4 (((hTl.ext hE1).ext hE3).ext hE4)) (Ext.refl _) (by rintro k (⟨_, h⟩ | h) <;> omega) (fun k => k = b2) (by rintro k rfl; omega) (by rintro k rfl (⟨_, h⟩ | h) <;> omega)
    (fun i A => Row A b2 [.int .i64 (i : Nat)] 3 ∧ i ≤ 10000) (fun c A => c = .exit 0 ∧ Row A b2 [.int .i64 10001] 3 ∧ T.light = false) (fun i A B h hb => ⟨h.1.below hb (by omega), h.2⟩) (fun c A B h hb => ⟨h.1, h.2.1.below hb (by omega), h.2.2⟩)
    ⟨hR34, by omega⟩ ?_ ?_ ?_
  · rintro i W1 cells lr hi hok hl1 hl2 hKW ⟨hRi, hi2⟩
    have hzW := hKW.size
    refine WC.skip' (fun a_ ha => ?_)
    refine ⟨Keep.refl _ _, fun w9 hB9 => ?_⟩
    refine WC.at ?_ ha
    have hz9 := hB9.size
    have hR9 : Row w9 b2 _ _ := hB9.row hRi (by omega)
    refine WC.block ?_
    refine WC.seqk ?_
    refine WC.region ?_
    refine WL.load_fld rfl rfl Ty.flat3 rfl hR9 rfl ?_
    refine WL.add (v := ((i + 1 : Nat) : Int)) rfl rfl rfl rfl (by rw [IntWalk.i64_in _ (by omega)]; rfl) ?_
    refine WL.store_cell rfl Ty.flat3 rfl rfl hR9 rfl rfl (fun w10 hB10 hR10 => ?_)
    refine WL.done' ?_ (fun _ _ h => h)
    refine WC.seqk ?_
    refine WC.region ?_
    refine WL.load_fld rfl rfl Ty.flat3 rfl hR10 rfl ?_
    cases hc : decide ((10000 : Int) < ((i + 1 : Nat) : Int)) with
    | true =>
      refine WL.gtr rfl rfl rfl rfl hc ?_
      have hc := of_decide_eq_true hc
      refine WL.done' ?_ (fun _ _ h => h)
      refine WC.cond_t rfl ?_
      refine WC.exit (fun a_ ha => ?_)
      refine exit_out rfl ?_
      obtain rfl : i = 10000 := by omega
      refine ⟨hB10.keep rfl, rfl, hR10, ?_⟩
      rw [Nd.pre_length] at hi
      simp [Nd.light]; omega
    | false =>
      refine WL.gtr rfl rfl rfl rfl hc ?_
      have hc := of_decide_eq_false hc
      refine WL.done' ?_ (fun _ _ h => h)
      refine WC.cond_f rfl ?_
      refine WC.skip' (fun a_ ha => ?_)
      exact ⟨hB10.keep rfl, hR10, by omega⟩
  · rintro wd Dd hDd hdd hKd ⟨hRd, hle⟩ a_ ha
    have hzd := hKd.size
    refine WC.at ?_ ha
    refine WC.seqk ?_
    refine WC.region ?_
    refine WL.load_fld rfl rfl Ty.flat3 rfl hRd rfl ?_
    refine WL.leq rfl rfl rfl rfl rfl ?_
    refine WL.assign rfl rfl rfl ?_
    refine WL.done' ?_ (fun _ _ h => h)
    refine WC.ret (fun a_ ha => ?_)
    refine ret_scope ?_
    refine bodyPostM_tmp rfl ha rfl (Marks.one (n0 := w.heap.size) (by omega) hdd) (fun wz hkz => ⟨?_, hkz.after (hKd.after ((hE1.trans hE3).trans hE4) (by rintro k rfl; omega)) (fun k h => h)⟩)
    congr 2
    rw [Nd.pre_length] at hle ⊢
    simp [Nd.light]; omega
  · rintro wd Dd cd hDd hdd hKd ⟨rfl, hRd, hnl⟩
    have hzd := hKd.size
    refine WC.exit (fun a_ ha => ?_)
    refine exit_here ?_
    refine WC.at ?_ ha
    refine WC.seqk ?_
    refine WC.region ?_
    refine WL.load_fld rfl rfl Ty.flat3 rfl hRd rfl ?_
    refine WL.leq rfl rfl rfl rfl rfl ?_
    refine WL.assign rfl rfl rfl ?_
    refine WL.done' ?_ (fun _ _ h => h)
    refine WC.ret (fun a_ ha => ?_)
    refine ret_scope ?_
    refine bodyPostM_tmp rfl ha rfl (Marks.one (n0 := w.heap.size) (by omega) hdd) (fun wz hkz => ⟨by rw [hnl]; rfl, hkz.after (hKd.after ((hE1.trans hE3).trans hE4) (by rintro k rfl; omega)) (fun k h => h)⟩)

set_option maxRecDepth 20000 in
theorem size_ok (D : Nat → Prop) (w : World) (l : List Value) (T : Nd) (hT : NodeL D w l T) :
    Calls Try.prog 16 #[.agg l.toArray] w fun e w' => e = .returned (.int .i64 T.sizes) ∧ Ext w w' := by
  have hTl := hT.lt
  obtain ⟨sl, rfl, hts⟩ := hT.opn
  obtain ⟨a, cap, rfl, hlen, -⟩ := hts.get
  refine Calls.enterM (args := [.agg (tcells T (.slice a T.subs.length cap)).toArray]) Try.func16 rfl rfl rfl rfl ?_
  refine WC.seqk ?_
  refine WC.region ?_
  refine WL.box_agg rfl rfl rfl (fun b1 w1 hb1 hE1 hs1 hR1 => ?_)
  refine WL.assign rfl rfl rfl ?_
  refine WL.done' ?_ (fun _ _ h => h)
  refine WC.seqk ?_
  refine WC.seqk ?_
  refine WC.region ?_
  refine WL.load_box rfl rfl rfl hR1 Ty.agg29 ?_
  refine WL.call rfl rfl rfl Ty.ent35 (light_ok _ _ _ T (hT.ext hE1)) ?_
  rintro e w2 ⟨rfl, hE2⟩
  refine ⟨_, rfl, ?_⟩
  have hz2 := hE2.size
  refine WL.not rfl rfl rfl ?_
  refine WL.done' ?_ (fun _ _ h => h)
  cases hc : T.light with
  | false =>
    refine WC.cond_t rfl ?_
    refine WC.seqk ?_
    refine WC.region ?_
    refine WL.assign rfl rfl rfl ?_
    refine WL.done' ?_ (fun _ _ h => h)
    refine WC.ret (fun a_ ha => ?_)
    exact bodyPostM_tmp rfl ha rfl (Marks.nil _ w.heap.size) (fun wz hkz => ⟨by simp [Nd.sizes, hc], hkz.after (hE1.trans hE2) (fun k h => h)⟩)
  | true =>
  have hle := light_le hc
  refine WC.cond_f rfl ?_
  refine WC.skip'' ?_ (fun _ _ h => h)
  refine WC.seqk ?_
  refine WC.region ?_
  refine WL.alloc rfl rfl Ty.zero3 rfl (fun b3 w3 hb3 hE3 hs3 hR3 => ?_)
  refine WL.store_cell rfl Ty.flat3 rfl rfl hR3 rfl rfl (fun w4 hB4 hR4 => ?_)
  have hE4 : Ext w2 w4 := hB4.below hE3 (by omega)
  have hz4 := hB4.size
  refine WL.done' ?_ (fun _ _ h => h)
  refine WC.seqk ?_
  refine WC.seqk ?_
  refine WC.region ?_
  refine WL.load_box rfl rfl rfl ((hR1.ext hE2).ext hE4) Ty.agg29 ?_
  refine WL.call rfl rfl rfl Ty.ent36 (nodes_ok _ _ rfl) ?_
  rintro e w5 ⟨b5, rfl, hE5, hR5, hb5, hs5⟩
  refine ⟨_, rfl, ?_⟩
  refine WL.done' ?_ (fun _ _ h => h)
  refine WC.block ?_
  refine WC.rangeFunc rfl rfl Ty.ent45 (nodes_iter hR5 ((((hTl.ext hE1).ext hE2).ext hE4).ext hE5)) (Ext.refl _) (by rintro k (⟨_, h⟩ | h) <;> omega) (fun k => k = b3) (by rintro k rfl; omega) (by rintro k rfl (⟨_, h⟩ | h) <;> omega)
    (fun i A => Row A b3 [.int .i64 (i : Nat)] 3) (fun _ _ => False) (fun i A B h hb => h.below hb (by omega)) (fun _ _ _ h _ => h)
    (hR4.ext hE5) ?_ ?_ (fun _ _ _ _ _ _ h => h.elim)
  · rintro i W1 cells lr hi hok hl1 hl2 hKW hRi
    have hzW := hKW.size
    refine WC.skip' (fun a_ ha => ?_)
    refine ⟨Keep.refl _ _, fun w9 hB9 => ?_⟩
    refine WC.at ?_ ha
    have hR9 : Row w9 b3 _ _ := hB9.row hRi (by omega)
    refine WC.block ?_
    refine WC.region ?_
    refine WL.load_fld rfl rfl Ty.flat3 rfl hR9 rfl ?_
    refine WL.add (v := ((i + 1 : Nat) : Int)) rfl rfl rfl rfl (by rw [IntWalk.i64_in _ (by omega)]; rfl) ?_
    refine WL.store_cell rfl Ty.flat3 rfl rfl hR9 rfl rfl (fun w10 hB10 hR10 => ?_)
    refine WL.nil (fun a_ ha => ?_)
    exact ⟨hB10.keep rfl, hR10⟩
  · rintro wd Dd hDd hdd hKd hRd a_ ha
    have hzd := hKd.size
    refine WC.at ?_ ha
    refine WC.seqk ?_
    refine WC.region ?_
    refine WL.load_fld rfl rfl Ty.flat3 rfl hRd rfl ?_
    refine WL.assign rfl rfl rfl ?_
    refine WL.done' ?_ (fun _ _ h => h)
    refine WC.ret (fun a_ ha => ?_)
    exact bodyPostM_tmp rfl ha rfl (Marks.one (n0 := w.heap.size) (by omega) hdd) (fun wz hkz => ⟨by simp [Nd.sizes, hc, Nd.pre_length], hkz.after (hKd.after (((hE1.trans hE2).trans hE4).trans hE5) (by rintro k rfl; omega)) (fun k h => h)⟩)

def grpN (l : List Nd) (i : Nat) : Nat := ((l.take i).filter fun x => x.kind == 6).length
theorem grpN_succ {l : List Nd} {i : Nat} {t : Nd} (h : l[i]? = some t) : grpN l (i + 1) = grpN l i + if t.kind == 6 then 1 else 0 := by
  unfold grpN; rw [List.take_add_one, h, List.filter_append]
  by_cases hk : t.kind == 6 <;> simp [hk]
theorem grpN_le (l : List Nd) (i : Nat) : grpN l i ≤ l.length := by
  unfold grpN; exact Nat.le_trans (List.length_filter_le _ _) (by rw [List.length_take]; omega)

set_option maxRecDepth 20000 in
theorem groups_ok (D : Nat → Prop) (w : World) (l : List Value) (T : Nd) (hT : NodeL D w l T) :
    Calls Try.prog 17 #[.agg l.toArray] w fun e w' => e = .returned (.int .i64 T.groups) ∧ Ext w w' := by
  have hTl := hT.lt
  obtain ⟨sl, rfl, hts⟩ := hT.opn
  obtain ⟨a, cap, rfl, hlen, -⟩ := hts.get
  refine Calls.enterM (args := [.agg (tcells T (.slice a T.subs.length cap)).toArray]) Try.func17 rfl rfl rfl rfl ?_
  refine WC.seqk ?_
  refine WC.region ?_
  refine WL.box_agg rfl rfl rfl (fun b1 w1 hb1 hE1 hs1 hR1 => ?_)
  refine WL.assign rfl rfl rfl ?_
  refine WL.done' ?_ (fun _ _ h => h)
  refine WC.seqk ?_
  refine WC.seqk ?_
  refine WC.region ?_
  refine WL.load_box rfl rfl rfl hR1 Ty.agg29 ?_
  refine WL.call rfl rfl rfl Ty.ent35 (light_ok _ _ _ T (hT.ext hE1)) ?_
  rintro e w2 ⟨rfl, hE2⟩
  refine ⟨_, rfl, ?_⟩
  have hz2 := hE2.size
  refine WL.not rfl rfl rfl ?_
  refine WL.done' ?_ (fun _ _ h => h)
  cases hc : T.light with
  | false =>
    refine WC.cond_t rfl ?_
    refine WC.seqk ?_
    refine WC.region ?_
    refine WL.assign rfl rfl rfl ?_
    refine WL.done' ?_ (fun _ _ h => h)
    refine WC.ret (fun a_ ha => ?_)
    exact bodyPostM_tmp rfl ha rfl (Marks.nil _ w.heap.size) (fun wz hkz => ⟨by simp [Nd.groups, hc], hkz.after (hE1.trans hE2) (fun k h => h)⟩)
  | true =>
  have hle := light_le hc
  refine WC.cond_f rfl ?_
  refine WC.skip'' ?_ (fun _ _ h => h)
  refine WC.seqk ?_
  refine WC.region ?_
  refine WL.alloc rfl rfl Ty.zero3 rfl (fun b3 w3 hb3 hE3 hs3 hR3 => ?_)
  refine WL.store_cell rfl Ty.flat3 rfl rfl hR3 rfl rfl (fun w4 hB4 hR4 => ?_)
  have hE4 : Ext w2 w4 := hB4.below hE3 (by omega)
  have hz4 := hB4.size
  refine WL.done' ?_ (fun _ _ h => h)
  refine WC.seqk ?_
  refine WC.seqk ?_
  refine WC.region ?_
  refine WL.load_box rfl rfl rfl ((hR1.ext hE2).ext hE4) Ty.agg29 ?_
  refine WL.call rfl rfl rfl Ty.ent36 (nodes_ok _ _ rfl) ?_
  rintro e w5 ⟨b5, rfl, hE5, hR5, hb5, hs5⟩
  refine ⟨_, rfl, ?_⟩
  refine WL.done' ?_ (fun _ _ h => h)
  refine WC.block ?_
  refine WC.rangeFunc rfl rfl Ty.ent45 (nodes_iter hR5 ((((hTl.ext hE1).ext hE2).ext hE4).ext hE5)) (Ext.refl _) (by rintro k (⟨_, h⟩ | h) <;> omega) (fun k => k = b3) (by rintro k rfl; omega) (by rintro k rfl (⟨_, h⟩ | h) <;> omega)
    (fun i A => Row A b3 [.int .i64 (grpN T.pre i : Nat)] 3) (fun _ _ => False) (fun i A B h hb => h.below hb (by omega)) (fun _ _ _ h _ => h)
    (by simpa [grpN] using hR4.ext hE5) ?_ ?_ (fun _ _ _ _ _ _ h => h.elim)
  · rintro i W1 cells lr hi ⟨t, ht, hnt⟩ hl1 hl2 hKW hRi
    have hzW := hKW.size
    obtain ⟨q, rfl, hq⟩ := hnt.opn
    obtain ⟨aq, cq, rfl, -, -⟩ := hq.get
    refine WC.region ?_
    refine WL.alloc rfl rfl Ty.zero29 rfl (fun b7 w7 hb7 hE7 hs7 hR7 => ?_)
    refine WL.store_box rfl rfl rfl hR7 Ty.agg29 rfl rfl (fun w8 hB8 hR8 => ?_)
    have hE8 : Ext W1 w8 := hB8.below hE7 (by omega)
    have hz8 := hB8.size
    refine WL.nil (fun a_ ha => ?_)
    refine ⟨hE8.keep _, fun w9 hB9 => ?_⟩
    refine WC.at ?_ ha
    have hR9 : Row w9 b3 _ _ := hB9.row (hRi.ext hE8) (by omega)
    have hR89 : Row w9 b7 _ _ := hB9.row hR8 (by omega)
    have hgl := grpN_le T.pre i
    have hgs := grpN_succ ht
    refine WC.block ?_
    refine WC.seqk ?_
    refine WC.region ?_
    refine WL.fieldAddr rfl rfl Ty.fld29_0 rfl ?_
    refine WL.load_fld rfl rfl Ty.flat5 rfl hR89 rfl ?_
    cases hk : ((t.kind : Int) == 6) with
    | true =>
      refine WL.eql rfl rfl rfl rfl hk ?_
      refine WL.done' ?_ (fun _ _ h => h)
      refine WC.cond_t rfl ?_
      refine WC.region ?_
      refine WL.load_fld rfl rfl Ty.flat3 rfl hR9 rfl ?_
      refine WL.add (v := ((grpN T.pre i + 1 : Nat) : Int)) rfl rfl rfl rfl (by rw [IntWalk.i64_in _ (by omega)]; rfl) ?_
      refine WL.store_cell rfl Ty.flat3 rfl rfl hR9 rfl rfl (fun w10 hB10 hR10 => ?_)
      refine WL.nil (fun a_ ha => ?_)
      exact ⟨hB10.keep rfl, by rw [hgs, hk]; exact hR10⟩
    | false =>
      refine WL.eql rfl rfl rfl rfl hk ?_
      refine WL.done' ?_ (fun _ _ h => h)
      refine WC.cond_f rfl ?_
      refine WC.skip' (fun a_ ha => ?_)
      exact ⟨Keep.refl _ _, by rw [hgs, hk]; exact hR9⟩
  · rintro wd Dd hDd hdd hKd hRd a_ ha
    have hzd := hKd.size
    refine WC.at ?_ ha
    refine WC.seqk ?_
    refine WC.region ?_
    refine WL.load_fld rfl rfl Ty.flat3 rfl hRd rfl ?_
    refine WL.assign rfl rfl rfl ?_
    refine WL.done' ?_ (fun _ _ h => h)
    refine WC.ret (fun a_ ha => ?_)
    exact bodyPostM_tmp rfl ha rfl (Marks.one (n0 := w.heap.size) (by omega) hdd) (fun wz hkz => ⟨by simp [Nd.groups, hc, grpN], hkz.after (hKd.after (((hE1.trans hE2).trans hE4).trans hE5) (by rintro k rfl; omega)) (fun k h => h)⟩)

set_option maxRecDepth 20000 in
theorem clean_ok (D : Nat → Prop) (w : World) (l : List Value) (T : Nd) (hT : NodeL D w l T) :
    Calls Try.prog 12 #[.agg l.toArray] w fun e w' => e = .returned (.bool T.clean) ∧ Ext w w' := by
  have hTl := hT.lt
  obtain ⟨sl, rfl, hts⟩ := hT.opn
  obtain ⟨a, cap, rfl, hlen, -⟩ := hts.get
  refine Calls.enterM (args := [.agg (tcells T (.slice a T.subs.length cap)).toArray]) Try.func12 rfl rfl rfl rfl ?_
  refine WC.seqk ?_
  refine WC.region ?_
  refine WL.box_agg rfl rfl rfl (fun b1 w1 hb1 hE1 hs1 hR1 => ?_)
  refine WL.alloc rfl rfl Ty.zero4 rfl (fun b2 w2 hb2 hE2 hs2 hR2 => ?_)
  refine WL.done' ?_ (fun _ _ h => h)
  refine WC.seqk ?_
  refine WC.seqk ?_
  refine WC.region ?_
  refine WL.load_box rfl rfl rfl (hR1.ext hE2) Ty.agg29 ?_
  refine WL.call rfl rfl rfl Ty.ent35 (light_ok _ _ _ T ((hT.ext hE1).ext hE2)) ?_
  rintro e w3 ⟨rfl, hE3⟩
  refine ⟨_, rfl, ?_⟩
  have hz3 := hE3.size
  refine WL.not rfl rfl rfl ?_
  refine WL.done' ?_ (fun _ _ h => h)
  have hR23 : Row w3 b2 _ _ := hR2.ext hE3
  cases hc : T.light with
  | false =>
    refine WC.cond_t rfl ?_
    refine WC.seqk ?_
    refine WC.region ?_
    refine WL.store_cell rfl Ty.flat4 rfl rfl hR23 rfl rfl (fun w4 hB4 hR4 => ?_)
    refine WL.done' ?_ (fun _ _ h => h)
    refine WC.ret (fun a_ ha => ?_)
    exact bodyPostM_cell1 rfl ha rfl Ty.flat4 hR4 (n0 := b2 + 1) (by omega) (Marks.nil _ _) (fun wz hkz => ⟨by simp [Nd.clean, hc], hkz.after (hB4.below ((hE1.trans hE2).trans hE3) (by omega)) (fun k h => by omega)⟩)
  | true =>
  refine WC.cond_f rfl ?_
  refine WC.skip'' ?_ (fun _ _ h => h)
  refine WC.seqk ?_
  refine WC.seqk ?_
  refine WC.region ?_
  refine WL.load_box rfl rfl rfl ((hR1.ext hE2).ext hE3) Ty.agg29 ?_
  refine WL.call rfl rfl rfl Ty.ent36 (nodes_ok _ _ rfl) ?_
  rintro e w5 ⟨b5, rfl, hE5, hR5, hb5, hs5⟩
  refine ⟨_, rfl, ?_⟩
  refine WL.done' ?_ (fun _ _ h => h)
  refine WC.block ?_
  refine WC.rangeFunc rfl rfl Ty.ent45 (nodes_iter hR5 ((((hTl.ext hE1).ext hE2).ext hE3).ext hE5)) (Ext.refl _) (by rintro k (⟨_, h⟩ | h) <;> omega) (fun k => k = b2) (by rintro k rfl; omega) (by rintro k rfl (⟨_, h⟩ | h) <;> omega)
    (fun i A => Row A b2 [.bool false] 4 ∧ ∀ (j : Nat) (t : Nd), j < i → T.pre[j]? = some t → t.right = true) (fun c A => c = .ret ∧ Row A b2 [.bool false] 4 ∧ T.clean = false) (fun i A B h hb => ⟨h.1.below hb (by omega), h.2⟩) (fun c A B h hb => ⟨h.1, h.2.1.below hb (by omega), h.2.2⟩)
    ⟨hR23.ext hE5, fun j t h => by omega⟩ ?_ ?_ ?_
  · rintro i W1 cells lr hi ⟨t, ht, hnt⟩ hl1 hl2 hKW ⟨hRi, hall⟩
    have hzW := hKW.size
    obtain ⟨q, rfl, hq⟩ := hnt.opn
    obtain ⟨aq, cq, rfl, -, -⟩ := hq.get
    refine WC.region ?_
    refine WL.alloc rfl rfl Ty.zero29 rfl (fun b7 w7 hb7 hE7 hs7 hR7 => ?_)
    refine WL.store_box rfl rfl rfl hR7 Ty.agg29 rfl rfl (fun w8 hB8 hR8 => ?_)
    have hE8 : Ext W1 w8 := hB8.below hE7 (by omega)
    have hz8 := hB8.size
    refine WL.nil (fun a_ ha => ?_)
    refine ⟨hE8.keep _, fun w9 hB9 => ?_⟩
    refine WC.at ?_ ha
    have hz9 := hB9.size
    have hR9 : Row w9 b2 _ _ := hB9.row (hRi.ext hE8) (by omega)
    have hR89 : Row w9 b7 _ _ := hB9.row hR8 (by omega)
    refine WC.block ?_
    refine WC.seqk ?_
    refine WC.region ?_
    refine WL.load_box rfl rfl rfl hR89 Ty.agg29 ?_
    refine WL.call rfl rfl rfl Ty.ent37 (right_ok _ _ _ t ((hnt.ext hE8).but hB9 (by rintro ⟨h1, h2⟩; omega))) ?_
    rintro e w10 ⟨rfl, hE10⟩
    refine ⟨_, rfl, ?_⟩
    refine WL.not rfl rfl rfl ?_
    refine WL.done' ?_ (fun _ _ h => h)
    have hR10 : Row w10 b2 _ _ := hR9.ext hE10
    cases hk : t.right with
    | false =>
      refine WC.cond_t rfl ?_
      refine WC.seqk ?_
      refine WC.region ?_
      refine WL.store_cell rfl Ty.flat4 rfl rfl hR10 rfl rfl (fun w11 hB11 hR11 => ?_)
      refine WL.done' ?_ (fun _ _ h => h)
      refine WC.ret (fun a_ ha => ?_)
      refine ⟨(hE10.keep _).trans (hB11.keep rfl), rfl, hR11, ?_⟩
      have : T.pre.all Nd.right = false := by
        rw [List.all_eq_false]; exact ⟨t, List.mem_of_getElem? ht, by simp [hk]⟩
      simp [Nd.clean, this]
    | true =>
      refine WC.cond_f rfl ?_
      refine WC.skip' (fun a_ ha => ?_)
      refine ⟨hE10.keep _, hR10, fun j u hj hu => ?_⟩
      rcases Nat.lt_or_ge j i with h | h
      · exact hall j u h hu
      · obtain rfl : j = i := by omega
        rw [ht] at hu; cases hu; exact hk
  · rintro wd Dd hDd hdd hKd ⟨hRd, hall⟩ a_ ha
    have hzd := hKd.size
    refine WC.at ?_ ha
    refine WC.seqk ?_
    refine WC.region ?_
    refine WL.store_cell rfl Ty.flat4 rfl rfl hRd rfl rfl (fun w4 hB4 hR4 => ?_)
    refine WL.done' ?_ (fun _ _ h => h)
    refine WC.ret (fun a_ ha => ?_)
    have hcl : T.clean = true := by
      have : T.pre.all Nd.right = true := by
        rw [List.all_eq_true]; intro t ht
        obtain ⟨j, hj, rfl⟩ := List.getElem_of_mem ht
        exact hall j _ hj (List.getElem?_eq_getElem hj)
      simp [Nd.clean, hc, this]
    exact bodyPostM_cell1 rfl ha rfl Ty.flat4 hR4 (n0 := b2 + 1) (by omega) (Marks.one (by omega) ((hB4.block _ (by omega)).trans hdd))
      (fun wz hkz => ⟨by rw [hcl], hkz.after (hB4.below (hKd.after (((hE1.trans hE2).trans hE3).trans hE5) (by rintro k rfl; omega)) (by omega)) (fun k h => by omega)⟩)
  · rintro wd Dd cd hDd hdd hKd ⟨rfl, hRd, hcl⟩
    have hzd := hKd.size
    refine WC.ret (fun a_ ha => ?_)
    refine ret_block ?_
    refine ret_then ?_
    exact bodyPostM_cell1 rfl ha rfl Ty.flat4 hRd (n0 := b2 + 1) (by omega) (Marks.one (by omega) hdd)
      (fun wz hkz => ⟨by rw [hcl], hkz.after (hKd.after (((hE1.trans hE2).trans hE3).trans hE5) (by rintro k rfl; omega)) (fun k h => by omega)⟩)
end Go.Proofs.Ytaggidjijekpbaa
