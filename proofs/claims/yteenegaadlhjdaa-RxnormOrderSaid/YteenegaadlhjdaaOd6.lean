/- Plain alternatives in another order: the law function RxnormOrder returns true for every three slices of steps; no condition. -/
import Derived.Test.YteenegaadlhjdaaOd5
import Derived.KernelRfl
import Derived.ProofKit
import Derived.Deep.Slices
import Derived.Carry
import Derived.Test.YteenegaadlhjdaaRows
set_option linter.all false
namespace Go.Proofs.Yteenegaadlhjdaa
open Go.Proofs Go.RowKit
set_option maxRecDepth 20000 in
set_option maxHeartbeats 4000000 in
theorem made_ok (D : Nat → Prop) (w : World) (a : Option Addr) (cap : Nat) (xs : List (Int × Int × Int)) (hxs : SmallV D w (.slice a xs.length cap) xs) :
  Calls Try.prog 7 #[.slice a xs.length cap] w fun e w' => ∃ l', e = .returned (.agg l'.toArray) ∧ NodeL (fun k => w.heap.size ≤ k) w' l' (Nd.made xs) ∧ Ext w w' := by
 have hlen := hxs.len
 have hxt := hxs.take25
 have hlt := hxt.len
 refine Calls.enter (args := [.slice a xs.length cap]) Try.func7 rfl rfl rfl rfl ?_
 refine sq ?_
 refine WL.alloc rfl rfl Ty.zero30 rfl (fun b1 w6 hb2 hE5 hs3 hR4 => ?_)
 refine WL.dn ?_
 refine sq ?_
 refine asg ?_
 refine WL.dn ?_
 refine sq ?_
 refine asg ?_
 refine asg ?_
 refine WL.dn ?_
 refine WC.seqk ?_
 refine sq ?_
 refine mv ?_
 refine mv ?_
 refine WL.len rfl rfl Try.underlying22 rfl ?_
 refine WL.min2 (v := minI xs.length 25) rfl rfl rfl rfl rfl ?_
 refine WL.slice_h (m := (xs.take 25).length) rfl rfl Ty.slice22 rfl rfl (min25 xs) (by omega) ?_
 refine WL.len rfl rfl Try.underlying22 rfl ?_
 refine mv ?_
 refine WL.dn ?_
 refine WC.block ?_
 refine WC.weaken (r' := [(2, pt b1 0), (20, .slice a ((xs.take 25).length) cap), (21, .int .i64 ((xs.take 25).length)), (22, .int .i64 0), (3, .slice none 0 0), (4, .int .i64 1), (5, .int .i64 0)]) (s4 (sr rfl (sr rfl (sr rfl (subReg_nil _))))) ?_
 refine WC.loop (σ := Nat × Value × Nd.M3) (fun s r_ w_ => r_ = [(2, pt b1 0), (20, .slice a ((xs.take 25).length) cap), (21, .int .i64 ((xs.take 25).length)), (22, .int .i64 (s.1 : Int)), (3, s.2.1), (4, .int .i64 s.2.2.u), (5, .int .i64 s.2.2.g)] ∧ Ext w w_ ∧ (s.1 ≤ (xs.take 25).length ∧ w6.heap.size ≤ w_.heap.size ∧ s.2.2 = Nd.madeSt ((xs.take 25).take s.1) ∧ Row w_ b1 (zc 0 0 0 (.slice none 0 0)) 30 ∧ OwnV 30 w6.heap.size (fun k => w6.heap.size ≤ k) w_ s.2.1 s.2.2.pile)) (fun s => (xs.take 25).length - s.1) (0, .slice none 0 0, ⟨[], 1, 0⟩) ⟨rfl, hE5, ⟨Nat.zero_le _, Nat.le_refl _, rfl, hR4, OwnV.nil _ _ _ _⟩⟩ ?_
 rintro ⟨k, v, m⟩ r_ w9 ⟨rfl, hE7, hI8⟩
 have hzhE7 := hE7.size
 dsimp only at hI8
 obtain ⟨hk, hWw, hst, hR2, hO⟩ := hI8
 have hbd := Nd.madeSt_bd ((xs.take 25).take k)
 rw [← hst] at hbd
 obtain ⟨pile, u, gr⟩ := m
 obtain ⟨hb1, hb2, hb3, hb4, hb5, hb6⟩ := hbd
 dsimp only at hst hO hb1 hb2 hb3 hb4 hb5 hb6
 have hO := hO.dom (D' := fun k => w6.heap.size ≤ k ∧ k < w9.heap.size) (fun k h1 h2 _ => ⟨h1, h2⟩)
 have hb7 : pile.length ≤ 25 := by have := hb1; rw [List.length_take, List.length_take] at this; omega
 have hb8 : Nd.sizeL pile ≤ 25 := by have := hb2; rw [List.length_take, List.length_take] at this; omega
 clear hb1 hb2
 obtain ⟨ap, capp, rfl, hnn, hxx⟩ := hO.cases
 have hol := hO.own
 have hcapp := hO.nodes.len
 have hts := hO.nodes.lt
 have hM := hO.mix
 refine WC.weaken (r' := [(2, pt b1 0), (20, .slice a ((xs.take 25).length) cap), (21, .int .i64 ((xs.take 25).length)), (22, .int .i64 (k : Int)), (3, .slice ap pile.length capp), (4, .int .i64 u), (5, .int .i64 gr)]) (s4 (sr rfl (sr rfl (sr rfl (subReg_nil _))))) ?_
 refine sq ?_
 cases hc10 : decide (((k : Int) : Int) < ((xs.take 25).length)) with
 | false =>
  refine WL.lss rfl rfl rfl rfl hc10 ?_
  have hp10 := of_decide_eq_false hc10
  refine WL.dn ?_
  refine WC.seqk ?_
  refine cF ?_
  refine WC.exit (fun a_ ha => ?_)
  refine exit_then ?_
  refine exit_then ?_
  refine exit_here ?_
  refine WC.at ?_ ha
  refine WC.seqk ?_
  refine sq ?_
  refine mv ?_
  refine WL.len rfl rfl Try.underlying24 rfl ?_
  cases hc11 : ((pile.length : Int) == 0) with
  | false =>
   refine WL.eql rfl rfl rfl rfl hc11 ?_
   have hp11 := beq_eq_false_iff_ne.1 hc11
   refine WL.dn ?_
   refine cF ?_
   refine WC.sk ?_
   refine sq ?_
   refine mv ?_
   have hrest := (hts).drop1 (by omega)
   obtain ⟨t12, ht12⟩ : ∃ t, pile[0]? = some t := ⟨_, List.getElem?_eq_getElem (by omega)⟩
   obtain ⟨eb12, el12, hea12, hgb12, hgl12, her12, hn12⟩ := hM.at ht12
   obtain ⟨a12, cap12, rfl, hts12, hlen12⟩ := hn12.op2
   subst hea12
   refine WL.indexAddr (i := 0) rfl rfl Ty.slice24 rfl rfl rfl (by omega) ?_
   refine WL.load_agg (l := tcells t12 (.slice a12 t12.subs.length cap12)) rfl rfl Ty.agg30 rfl her12 ?_
   refine WL.alloc rfl rfl Ty.zero30 rfl (fun b13 w18 hb14 hE17 hs15 hR16 => ?_)
   refine WL.store_box rfl rfl rfl hR16 Ty.agg30 rfl rfl (fun w21 hB20 hR19 => ?_)
   have hzhB20 := hB20.size
   refine WL.dn ?_
   refine WC.seqk ?_
   refine sq ?_
   refine mv ?_
   refine WL.slice_l (m := 1) rfl rfl Ty.slice24 rfl rfl rfl (by omega) ?_
   refine WL.len rfl rfl Try.underlying24 rfl ?_
   refine mv ?_
   refine WL.dn ?_
   refine WC.block ?_
   generalize hA : (if capp = 1 then (some ⟨eb12, 0, none⟩) else Option.map (fun z => Addr.add z (1 * 8)) (some ⟨eb12, 0, none⟩)) = ar at hrest ⊢
   have h22 := (hB20.row (hR2.ext hE17) (by omega))
   have h23 := ((hn12.ext hE17).bu hB20)
   refine WC.weaken (r' := [(2, pt b1 0), (13, pt b13 0), (193, .slice ar (pile.length - 1 : Nat) (capp - 1)), (194, .int .i64 (pile.length - 1 : Nat)), (195, .int .i64 0)]) (s4 (sr rfl (subReg_nil _))) ?_
   refine WC.loop (σ := Nat × List Value) (fun s r_ w_ => r_ = [(2, pt b1 0), (13, pt b13 0), (193, .slice ar (pile.length - 1 : Nat) (capp - 1)), (194, .int .i64 (pile.length - 1 : Nat)), (195, .int .i64 (s.1 : Int))] ∧ Ext w9 w_ ∧ (s.1 ≤ pile.length - 1 ∧ w9.heap.size + 1 ≤ w_.heap.size ∧ Row w_ b1 (zc 0 0 0 (.slice none 0 0)) 30 ∧ Row w_ b13 s.2 30 ∧ NodeL (fun k => w6.heap.size ≤ k ∧ k ≠ b13) w_ s.2 (((pile.drop 1).take s.1).foldl (Nd.joins 4) t12))) (fun s => pile.length - 1 - s.1) (0, (tcells t12 (.slice a12 t12.subs.length cap12))) ⟨rfl, (hB20.onto hE17 (by omega)), ⟨Nat.zero_le _, by omega, h22, hR19, (h23.dom (by intro k h1; (try dsimp only at h1); (repeat' first | (guard_hyp h1 : _ ∨ _; refine Or.elim h1 (fun h1 => ?_) (fun h1 => ?_)) | (guard_hyp h1 : _ ∧ _; have hx := h1.2; replace h1 := h1.1)) <;> first | contradiction | omega | (dsimp only; omega)))⟩⟩ ?_
   rintro ⟨k, l13⟩ r_ w26 ⟨rfl, hE24, hI25⟩
   have hzhE24 := hE24.size
   dsimp only at hI25
   obtain ⟨hk2, hWw2, hR2, hR13, hN⟩ := hI25
   have hN := hN.lt
   obtain ⟨a27, cap27, rfl, hts27, hlen27⟩ := hN.op2
   refine WC.weaken (r' := [(2, pt b1 0), (13, pt b13 0), (193, .slice ar (pile.length - 1 : Nat) (capp - 1)), (194, .int .i64 (pile.length - 1 : Nat)), (195, .int .i64 (k : Int))]) (s4 (sr rfl (subReg_nil _))) ?_
   refine sq ?_
   cases hc28 : decide (((k : Int) : Int) < (pile.length - 1 : Nat)) with
   | false =>
    refine WL.lss rfl rfl rfl rfl hc28 ?_
    have hp28 := of_decide_eq_false hc28
    refine WL.dn ?_
    refine WC.seqk ?_
    refine cF ?_
    refine WC.exit (fun a_ ha => ?_)
    refine exit_then ?_
    refine exit_then ?_
    refine exit_here ?_
    refine WC.at ?_ ha
    refine sq ?_
    refine WL.load_box rfl rfl rfl hR13 Ty.agg30 ?_
    refine WL.store_box rfl rfl rfl hR2 Ty.agg30 rfl rfl (fun w31 hB30 hR29 => ?_)
    have hzhB30 := hB30.size
    refine WL.dn ?_
    refine WC.ret (fun a_ ha => ?_)
    exact bodyPost_cell (l := (tcells (((pile.drop 1).take k).foldl (Nd.joins 4) t12) (.slice a27 (((pile.drop 1).take k).foldl (Nd.joins 4) t12).subs.length cap27))) rfl ha rfl Ty.agg30 hR29 ⟨_, rfl, (by rw [Nd.made_eq hst (by omega), Nd.madeEnd_at ht12]; have hkk : (pile.drop 1).take k = pile.drop 1 := List.take_of_length_le (by rw [List.length_drop]; omega); have hT : ((pile.drop 1).take k).foldl (Nd.joins 4) t12 = (pile.drop 1).foldl (Nd.joins 4) t12 := (by rw [hkk]); rw [← hT]; exact (hN.bu hB30).dom (by intro k h1; (try dsimp only at h1); (repeat' first | (guard_hyp h1 : _ ∨ _; refine Or.elim h1 (fun h1 => ?_) (fun h1 => ?_)) | (guard_hyp h1 : _ ∧ _; have hx := h1.2; replace h1 := h1.1)) <;> first | contradiction | omega | (dsimp only; omega))), (hB30.onto (hE7.trans hE24) (by omega))⟩
   | true =>
    refine WL.lss rfl rfl rfl rfl hc28 ?_
    have hp28 := of_decide_eq_true hc28
    refine WL.dn ?_
    refine WC.seqk ?_
    refine cT ?_
    refine WC.sk ?_
    refine WC.seqk ?_
    refine WC.block ?_
    refine sq ?_
    obtain ⟨t29, ht29⟩ : ∃ t, (pile.drop 1)[k]? = some t := ⟨_, List.getElem?_eq_getElem (by first | omega | (rw [List.length_drop]; omega))⟩
    obtain ⟨eb29, eo29, el29, hea29, hD29, her29, hn29⟩ := (hrest.ext hE24).at ht29
    obtain ⟨a29, cap29, rfl, hts29, hlen29⟩ := hn29.op2
    subst hea29
    refine WL.indexAddr (i := k) rfl rfl Ty.slice24 rfl rfl rfl (by first | omega | (rw [List.length_drop]; omega)) ?_
    refine WL.load_agg (l := tcells t29 (.slice a29 t29.subs.length cap29)) rfl rfl Ty.agg30 rfl her29 ?_
    refine WL.alloc rfl rfl Ty.zero30 rfl (fun b30 w35 hb31 hE34 hs32 hR33 => ?_)
    refine WL.store_box rfl rfl rfl hR33 Ty.agg30 rfl rfl (fun w38 hB37 hR36 => ?_)
    have hzhB37 := hB37.size
    refine WL.dn ?_
    refine WC.region ?_
    have h39 := (hB37.row (hR13.ext hE34) (by omega))
    refine WL.load_box rfl rfl rfl h39 Ty.agg30 ?_
    refine WL.load_box rfl rfl rfl hR36 Ty.agg30 ?_
    have h40 := ((hN.ext hE34).bu hB37)
    have h41 := ((hn29.ext hE34).bu hB37)
    refine WL.call rfl rfl rfl Ty.ent22 (joins_ok _ _ _ 4 _ _ (((pile.drop 1).take k).foldl (Nd.joins 4) t12) t29 h40 h41 (by have h1 := Nd.foldl_size ((pile.drop 1).take k) t12; have h2 := Nd.sizeL_take_le (pile.drop 1) k; have h3 := Nd.sizeL_drop1 ht12; have h4 : ((pile.drop 1).take k).length ≤ pile.length := (by rw [List.length_take, List.length_drop]; omega); omega) (by have h1 := Nd.size_le_sizeL (List.mem_of_getElem? ht29); have h2 := Nd.sizeL_drop1 ht12; omega)) ?_
    rintro _ w44 ⟨l42, rfl, hr42, hE43⟩
    have hzhE43 := hE43.size
    refine ⟨_, rfl, ?_⟩
    have hn42 := hr42.lt
    obtain ⟨a42, cap42, rfl, hts42, hlen42⟩ := hn42.op2
    refine WL.store_box rfl rfl rfl (h39.ext hE43) Ty.agg30 rfl rfl (fun w47 hB46 hR45 => ?_)
    have hzhB46 := hB46.size
    refine WL.dn ?_
    refine WC.region ?_
    refine WL.add (v := (k : Int) + 1) rfl rfl rfl rfl (IntWalk.i64_in _ (by omega)) ?_
    refine mv ?_
    refine WL.nil (fun a_ ha => ?_)
    have h48 := (hB46.row ((hB37.row (hR2.ext hE34) (by omega)).ext hE43) (by omega))
    exact ⟨(k + 1, (tcells (Nd.joins 4 (((pile.drop 1).take k).foldl (Nd.joins 4) t12) t29) (.slice a42 (Nd.joins 4 (((pile.drop 1).take k).foldl (Nd.joins 4) t12) t29).subs.length cap42))), _, ha.weaken (s4 (sr rfl (subReg_nil _))), ⟨rfl, (hB46.onto ((hB37.onto (hE24.trans hE34) (by omega)).trans hE43) (by omega)), ⟨by first | omega | (dsimp only; omega), by omega, h48, hR45, (by have ht := ht29; rw [List.take_add_one, ht, List.foldl_append]; exact (hn42.bu hB46).dom (by intro k h1; (try dsimp only at h1); (repeat' first | (guard_hyp h1 : _ ∨ _; refine Or.elim h1 (fun h1 => ?_) (fun h1 => ?_)) | (guard_hyp h1 : _ ∧ _; have hx := h1.2; replace h1 := h1.1)) <;> first | contradiction | omega | (dsimp only; omega)))⟩⟩, by first | omega | (dsimp only; omega)⟩
  | true =>
   refine WL.eql rfl rfl rfl rfl hc11 ?_
   have hp11 := beq_iff_eq.1 hc11
   refine WL.dn ?_
   refine cT ?_
   refine sq ?_
   refine WL.call rfl rfl rfl Ty.ent20 (class_ok _ ([97]) (by first | decide | exact Nd.lettersS_len _)) ?_
   rintro _ w14 ⟨l12, rfl, hr12, hE13⟩
   have hzhE13 := hE13.size
   refine ⟨_, rfl, ?_⟩
   have hn12 := hr12.lt
   obtain ⟨a12, cap12, rfl, hts12, hlen12⟩ := hn12.op2
   refine WL.store_box rfl rfl rfl (hR2.ext hE13) Ty.agg30 rfl rfl (fun w17 hB16 hR15 => ?_)
   have hzhB16 := hB16.size
   refine WL.dn ?_
   refine WC.ret (fun a_ ha => ?_)
   refine ret_then ?_
   exact bodyPost_cell (l := (tcells (Nd.classS ([97])) (.slice a12 (Nd.classS ([97])).subs.length cap12))) rfl ha rfl Ty.agg30 hR15 ⟨_, rfl, (by rw [Nd.made_eq hst (by omega), Nd.madeEnd_nil (p := pile) (by omega)]; exact (hn12.bu hB16).dom (by intro k h1; (try dsimp only at h1); (repeat' first | (guard_hyp h1 : _ ∨ _; refine Or.elim h1 (fun h1 => ?_) (fun h1 => ?_)) | (guard_hyp h1 : _ ∧ _; have hx := h1.2; replace h1 := h1.1)) <;> first | contradiction | omega | (dsimp only; omega))), (hB16.onto (hE7.trans hE13) (by omega))⟩
 | true =>
  refine WL.lss rfl rfl rfl rfl hc10 ?_
  have hp10 := of_decide_eq_true hc10
  refine WL.dn ?_
  refine WC.seqk ?_
  refine cT ?_
  refine WC.sk ?_
  refine WC.seqk ?_
  refine WC.block ?_
  refine sq ?_
  obtain ⟨x11, hx11⟩ : ∃ x, (xs.take 25)[k]? = some x := ⟨_, List.getElem?_eq_getElem (by omega)⟩
  obtain ⟨eb11, eo11, hea11, her11, hxb11⟩ := (hxt.ext hE7).at hx11
  subst hea11
  refine WL.indexAddr (i := k) rfl rfl Ty.slice22 rfl rfl rfl (by omega) ?_
  refine WL.load_agg (l := cells3 x11) rfl rfl Ty.agg49 rfl her11 ?_
  refine WL.alloc rfl rfl Ty.zero49 rfl (fun b12 w17 hb13 hE16 hs14 hR15 => ?_)
  refine WL.store_box rfl rfl rfl hR15 Ty.agg49 rfl rfl (fun w20 hB19 hR18 => ?_)
  have hzhB19 := hB19.size
  refine WL.dn ?_
  refine sq ?_
  refine mv ?_
  refine WL.len rfl rfl Try.underlying24 rfl ?_
  refine asg ?_
  refine WL.dn ?_
  refine sq ?_
  refine WL.fieldAddr rfl rfl Ty.fld49_0 rfl ?_
  refine WL.load_fld rfl rfl Ty.flat5 rfl hR18 rfl ?_
  refine WL.rem (v := (x11.1.tmod 12)) rfl rfl rfl rfl (by decide) rfl ?_
  refine asg ?_
  refine WL.dn ?_
  refine WC.block ?_
  refine sq ?_
  refine mv ?_
  cases hc21 : decide (((x11.1.tmod 12) : Int) < 4) with
  | false =>
   refine WL.lss rfl rfl rfl rfl hc21 ?_
   have hp21 := of_decide_eq_false hc21
   refine asg ?_
   refine WL.dn ?_
   refine cF ?_
   refine sq ?_
   refine mv ?_
   cases hc22 : (((x11.1.tmod 12) : Int) == 4) with
   | false =>
    refine WL.eql rfl rfl rfl rfl hc22 ?_
    have hp22 := beq_eq_false_iff_ne.1 hc22
    refine asg ?_
    refine WL.dn ?_
    refine cF ?_
    refine sq ?_
    refine mv ?_
    cases hc23 : decide (((x11.1.tmod 12) : Int) < 7) with
    | false =>
     refine WL.lss rfl rfl rfl rfl hc23 ?_
     have hp23 := of_decide_eq_false hc23
     refine mv ?_
     refine ps ?_
     refine ps ?_
     refine pF ?_
     refine asg ?_
     refine WL.dn ?_
     refine cF ?_
     refine sq ?_
     refine mv ?_
     cases hc24 : decide (((x11.1.tmod 12) : Int) < 9) with
     | false =>
      refine WL.lss rfl rfl rfl rfl hc24 ?_
      have hp24 := of_decide_eq_false hc24
      refine mv ?_
      refine ps ?_
      refine ps ?_
      refine pF ?_
      refine asg ?_
      refine WL.dn ?_
      refine cF ?_
      refine sq ?_
      refine mv ?_
      cases hc25 : (((x11.1.tmod 12) : Int) == 9) with
      | false =>
       refine WL.eql rfl rfl rfl rfl hc25 ?_
       have hp25 := beq_eq_false_iff_ne.1 hc25
       refine mv ?_
       refine ps ?_
       refine ps ?_
       refine pF ?_
       refine mv ?_
       refine ps ?_
       refine ps ?_
       refine pF ?_
       refine asg ?_
       refine WL.dn ?_
       refine cF ?_
       refine sq ?_
       refine mv ?_
       cases hc26 : decide ((9 : Int) < (x11.1.tmod 12)) with
       | false =>
        refine WL.gtr rfl rfl rfl rfl hc26 ?_
        have hp26 := of_decide_eq_false hc26
        refine mv ?_
        refine ps ?_
        refine ps ?_
        refine pF ?_
        refine mv ?_
        refine ps ?_
        refine ps ?_
        refine ps ?_
        refine ps ?_
        refine ps ?_
        refine ps ?_
        refine ps ?_
        refine pF ?_
        refine asg ?_
        refine WL.dn ?_
        refine cF ?_
        refine WC.sk ?_
        refine WC.region ?_
        refine WL.add (v := (k : Int) + 1) rfl rfl rfl rfl (IntWalk.i64_in _ (by omega)) ?_
        refine mv ?_
        refine WL.nil (fun a_ ha => ?_)
        have h27 := ((hO.ext hE16).but hB19 (fun h1 => by first | omega | (dsimp only at h1; omega)) (fun hk => by have := (hO.ext hE16).own _ hk; have := hol _ hk; omega))
        have h28 := (hB19.row (hR2.ext hE16) (by omega))
        exact ⟨(k + 1, .slice ap pile.length capp, ⟨pile, u, gr⟩), _, ha.weaken (s4 (sr rfl (sr rfl (sr rfl (subReg_nil _))))), ⟨rfl, (hB19.onto (hE7.trans hE16) (by omega)), ⟨by first | omega | (dsimp only; omega), by omega, (by rw [Nd.madeSt_succ hx11, ← hst]; simp only [Nd.stepM, hc10, hc21, hc22, hc23, hc24, hc25, hc26, Nd.mostM, Nd.empty, Bool.or_true, Bool.true_or, Bool.or_false, Bool.false_or, cond_true, cond_false, Bool.true_and, Bool.false_and, Bool.and_true, Bool.and_false]), h28, (h27.dom (by intro k h1 _ _; (try dsimp only at h1); (repeat' first | (guard_hyp h1 : _ ∨ _; refine Or.elim h1 (fun h1 => ?_) (fun h1 => ?_)) | (guard_hyp h1 : _ ∧ _; have hx := h1.2; replace h1 := h1.1)) <;> first | contradiction | omega | (dsimp only; omega)))⟩⟩, by first | omega | (dsimp only; omega)⟩
       | true =>
        refine WL.gtr rfl rfl rfl rfl hc26 ?_
        have hp26 := of_decide_eq_true hc26
        refine mv ?_
        refine mv ?_
        cases hc27 : decide ((0 : Int) < pile.length) with
        | false =>
         refine WL.gtr rfl rfl rfl rfl hc27 ?_
         have hp27 := of_decide_eq_false hc27
         refine pT ?_
         refine mv ?_
         refine ps ?_
         refine ps ?_
         refine ps ?_
         refine ps ?_
         refine ps ?_
         refine ps ?_
         refine ps ?_
         refine pF ?_
         refine asg ?_
         refine WL.dn ?_
         refine cF ?_
         refine WC.sk ?_
         refine WC.region ?_
         refine WL.add (v := (k : Int) + 1) rfl rfl rfl rfl (IntWalk.i64_in _ (by omega)) ?_
         refine mv ?_
         refine WL.nil (fun a_ ha => ?_)
         have h28 := ((hO.ext hE16).but hB19 (fun h1 => by first | omega | (dsimp only at h1; omega)) (fun hk => by have := (hO.ext hE16).own _ hk; have := hol _ hk; omega))
         have h29 := (hB19.row (hR2.ext hE16) (by omega))
         exact ⟨(k + 1, .slice ap pile.length capp, ⟨pile, u, gr⟩), _, ha.weaken (s4 (sr rfl (sr rfl (sr rfl (subReg_nil _))))), ⟨rfl, (hB19.onto (hE7.trans hE16) (by omega)), ⟨by first | omega | (dsimp only; omega), by omega, (by rw [Nd.madeSt_succ hx11, ← hst]; simp only [Nd.stepM, hc10, hc21, hc22, hc23, hc24, hc25, hc26, hc27, Nd.mostM, Nd.empty, Bool.or_true, Bool.true_or, Bool.or_false, Bool.false_or, cond_true, cond_false, Bool.true_and, Bool.false_and, Bool.and_true, Bool.and_false]), h29, (h28.dom (by intro k h1 _ _; (try dsimp only at h1); (repeat' first | (guard_hyp h1 : _ ∨ _; refine Or.elim h1 (fun h1 => ?_) (fun h1 => ?_)) | (guard_hyp h1 : _ ∧ _; have hx := h1.2; replace h1 := h1.1)) <;> first | contradiction | omega | (dsimp only; omega)))⟩⟩, by first | omega | (dsimp only; omega)⟩
        | true =>
         refine WL.gtr rfl rfl rfl rfl hc27 ?_
         have hp27 := of_decide_eq_true hc27
         refine pT ?_
         refine mv ?_
         refine mv ?_
         refine mv ?_
         refine WL.sub (v := ((pile.length - 1 : Nat) : Int)) rfl rfl rfl rfl (by rw [IntWalk.i64_in _ (by omega)]; omega) ?_
         have h28 := ((hM.ext hE16).but hB19 (by rintro i hi ⟨h1, h2⟩; first | omega | (dsimp only at h1; omega) | ((try dsimp only at h1); (repeat' first | (guard_hyp h1 : _ ∨ _; refine Or.elim h1 (fun h1 => ?_) (fun h1 => ?_)) | (guard_hyp h1 : _ ∧ _; have hx := h1.2; replace h1 := h1.1)) <;> first | contradiction | omega)) (fun hk => by have := (hM.ext hE16).block _ hk; have := hol _ hk; omega))
         obtain ⟨t29, ht29⟩ : ∃ t, pile[(pile.length - 1)]? = some t := ⟨_, List.getElem?_eq_getElem (by omega)⟩
         obtain ⟨eb29, el29, hea29, hgb29, hgl29, her29, hn29⟩ := h28.at ht29
         obtain ⟨a29, cap29, rfl, hts29, hlen29⟩ := hn29.op2
         subst hea29
         refine WL.indexAddr (i := (pile.length - 1)) rfl rfl Ty.slice24 rfl rfl rfl (by omega) ?_
         refine WL.fieldAddr rfl rfl Ty.fld30_0 rfl ?_
         refine WL.load_flat rfl rfl Ty.flat5 rfl (her29 0 _ rfl) ?_
         cases hc30 : ((t29.kind : Int) != 1) with
         | false =>
          refine WL.neq rfl rfl rfl rfl hc30 ?_
          have hp30 := bne_eq_false_iff_eq.1 hc30
          refine pT ?_
          refine asg ?_
          refine WL.dn ?_
          refine cF ?_
          refine WC.sk ?_
          refine WC.region ?_
          refine WL.add (v := (k : Int) + 1) rfl rfl rfl rfl (IntWalk.i64_in _ (by omega)) ?_
          refine mv ?_
          refine WL.nil (fun a_ ha => ?_)
          have h31 := ((hO.ext hE16).but hB19 (fun h1 => by first | omega | (dsimp only at h1; omega)) (fun hk => by have := (hO.ext hE16).own _ hk; have := hol _ hk; omega))
          have h32 := (hB19.row (hR2.ext hE16) (by omega))
          exact ⟨(k + 1, .slice (some ⟨eb29, 0, none⟩) pile.length capp, ⟨pile, u, gr⟩), _, ha.weaken (s4 (sr rfl (sr rfl (sr rfl (subReg_nil _))))), ⟨rfl, (hB19.onto (hE7.trans hE16) (by omega)), ⟨by first | omega | (dsimp only; omega), by omega, (by rw [Nd.madeSt_succ hx11, ← hst]; simp only [Nd.stepM, hc10, hc21, hc22, hc23, hc24, hc25, hc26, hc27, hc30, Nd.mostM, Nd.empty, Nd.top_at ht29, Bool.or_true, Bool.true_or, Bool.or_false, Bool.false_or, cond_true, cond_false, Bool.true_and, Bool.false_and, Bool.and_true, Bool.and_false]), h32, (h31.dom (by intro k h1 _ _; (try dsimp only at h1); (repeat' first | (guard_hyp h1 : _ ∨ _; refine Or.elim h1 (fun h1 => ?_) (fun h1 => ?_)) | (guard_hyp h1 : _ ∧ _; have hx := h1.2; replace h1 := h1.1)) <;> first | contradiction | omega | (dsimp only; omega)))⟩⟩, by first | omega | (dsimp only; omega)⟩
         | true =>
          refine WL.neq rfl rfl rfl rfl hc30 ?_
          have hp30 := bne_iff_ne.1 hc30
          refine pT ?_
          refine asg ?_
          refine WL.dn ?_
          refine cT ?_
          refine WC.seqk ?_
          have h31 := ((hO.ext hE16).but hB19 (fun h1 => by first | omega | (dsimp only at h1; omega)) (fun hk => by have := (hO.ext hE16).own _ hk; have := hol _ hk; omega))
          have h32 := (hB19.row (hR2.ext hE16) (by omega))
          refine WC.weaken (r' := [(2, pt b1 0), (20, .slice (some ⟨eb11, eo11, none⟩) ((xs.take 25).length) cap), (21, .int .i64 ((xs.take 25).length)), (22, .int .i64 (k : Int)), (3, .slice (some ⟨eb29, 0, none⟩) pile.length capp), (4, .int .i64 u), (5, .int .i64 gr), (23, .bool true), (24, pt eb11 (eo11 + k * 3)), (25, .agg #[.int .u8 x11.1, .int .u8 x11.2.1, .int .u8 x11.2.2]), (7, pt b12 0), (26, .slice (some ⟨eb29, 0, none⟩) pile.length capp), (27, .int .i64 pile.length), (8, .int .i64 pile.length), (28, pt b12 0), (29, .int .u8 x11.1), (30, .int .u8 (x11.1.tmod 12)), (9, .int .u8 (x11.1.tmod 12)), (32, .int .u8 (x11.1.tmod 12)), (33, .bool false), (31, .bool false), (42, .int .u8 (x11.1.tmod 12)), (43, .bool false), (41, .bool false), (49, .int .u8 (x11.1.tmod 12)), (50, .bool false), (51, .bool false), (52, undef), (53, undef), (54, .bool false), (48, .bool false), (75, .int .u8 (x11.1.tmod 12)), (76, .bool false), (77, .bool false), (78, undef), (79, undef), (80, .bool false), (74, .bool false), (101, .int .u8 (x11.1.tmod 12)), (102, .bool false), (103, .bool false), (104, undef), (105, undef), (106, .bool false), (107, .bool false), (108, undef), (109, undef), (110, .bool false), (100, .bool false), (124, .int .u8 (x11.1.tmod 12)), (125, .bool true), (126, .bool true), (127, .int .i64 pile.length), (128, .bool true), (129, .bool true), (130, .bool true), (131, .slice (some ⟨eb29, 0, none⟩) pile.length capp), (132, .int .i64 pile.length), (133, .int .i64 ((pile.length - 1 : Nat) : Int)), (134, pt eb29 (0 + (pile.length - 1) * 8)), (135, pt eb29 (0 + (pile.length - 1) * 8 + 0)), (136, .int .u8 t29.kind), (137, .bool true), (138, .bool true), (123, .bool true)]) (s4 (s4 (s4 (s4 (s4 (s4 (s4 (s4 (s4 (s4 (s4 (s4 (s4 (s4 (s4 (s4 (sr rfl (subReg_nil _)))))))))))))))))) ?_
          refine WC.draw 9 [139, 140, 141, 142, 143, 144, 145, 146, 10] [pc (pt b12 1), pc (.int .u8 x11.2.1), pc (.int .u8 (x11.2.1.tmod 3)), pc (.int .i64 (x11.2.1.tmod 3)), pc (pt b12 2), pc (.int .u8 x11.2.2), pc (.int .u8 (x11.2.2.tmod 4)), pc (.int .i64 (x11.2.2.tmod 4)), pc (.int .i64 (x11.2.1.tmod 3))] (by kernel_rfl) (by kernel_rfl) (k4 (k4 ⟨KW_pc _, trivial⟩)) rfl rfl rfl (sc4 ?_ ?_ ?_ ?_ (sc4 ?_ ?_ ?_ ?_ (sc ?_ (StepsOn.nil _)))) ?_
          ·intro σ β w1 hE1 hbi hk
           refine ⟨[], (agree_nil _), ?_⟩
           refine WL.fieldAddr rfl rfl Ty.fld49_1 rfl ?_
           exact dq hbi rfl
          ·intro σ β w1 hE1 hbi hk
           refine ⟨[(139, pt b12 1)], (ak hk 0 (agree_nil _)), ?_⟩
           refine WL.load_fld rfl rfl Ty.flat5 rfl (hR18.ext hE1) rfl ?_
           exact dq hbi rfl
          ·intro σ β w1 hE1 hbi hk
           refine ⟨[(140, .int .u8 x11.2.1)], (ak hk 1 (agree_nil _)), ?_⟩
           refine WL.rem (v := (x11.2.1.tmod 3)) rfl rfl rfl rfl (by decide) rfl ?_
           exact dq hbi rfl
          ·intro σ β w1 hE1 hbi hk
           have hz1 := hE1.size
           refine ⟨[(141, .int .u8 (x11.2.1.tmod 3))], (ak hk 2 (agree_nil _)), ?_⟩
           refine WL.convInt (v := (x11.2.1.tmod 3)) rfl rfl Try.underlying5 Try.underlying3 rfl (by have := Nd.mod_bd (x := x11.2.1) (n := 3) (by omega) (by decide); exact IntWalk.i64_in _ (by omega)) ?_
           exact dq hbi rfl
          ·intro σ β w1 hE1 hbi hk
           refine ⟨[], (agree_nil _), ?_⟩
           refine WL.fieldAddr rfl rfl Ty.fld49_2 rfl ?_
           exact dq hbi rfl
          ·intro σ β w1 hE1 hbi hk
           refine ⟨[(143, pt b12 2)], (ak hk 4 (agree_nil _)), ?_⟩
           refine WL.load_fld rfl rfl Ty.flat5 rfl (hR18.ext hE1) rfl ?_
           exact dq hbi rfl
          ·intro σ β w1 hE1 hbi hk
           refine ⟨[(144, .int .u8 x11.2.2)], (ak hk 5 (agree_nil _)), ?_⟩
           refine WL.rem (v := (x11.2.2.tmod 4)) rfl rfl rfl rfl (by decide) rfl ?_
           exact dq hbi rfl
          ·intro σ β w1 hE1 hbi hk
           have hz1 := hE1.size
           refine ⟨[(145, .int .u8 (x11.2.2.tmod 4))], (ak hk 6 (agree_nil _)), ?_⟩
           refine WL.convInt (v := (x11.2.2.tmod 4)) rfl rfl Try.underlying5 Try.underlying3 rfl (by have := Nd.mod_bd (x := x11.2.2) (n := 4) (by omega) (by decide); exact IntWalk.i64_in _ (by omega)) ?_
           exact dq hbi rfl
          ·intro σ β w1 hE1 hbi hk
           refine ⟨[(142, .int .i64 (x11.2.1.tmod 3))], (ak hk 3 (agree_nil _)), ?_⟩
           refine asg ?_
           exact dq hbi rfl
          intro σ β w33 hE33 hbi33 hk
          have hz33 := hE33.size
          have hbi := hbi33
          refine WL.know [(146, .int .i64 (x11.2.2.tmod 4)), (10, .int .i64 (x11.2.1.tmod 3))] (aj hk 7 (aj hk 8 (agree_nil _))) ?_
          refine asg ?_
          refine WL.dn ?_
          refine WC.seqk ?_
          refine sq ?_
          refine mv ?_
          refine mv ?_
          cases hc36 : decide (((x11.2.2.tmod 4) : Int) < (x11.2.1.tmod 3)) with
          | false =>
           refine WL.lss rfl rfl rfl rfl hc36 ?_
           have hp36 := of_decide_eq_false hc36
           refine mv ?_
           refine mv ?_
           cases hc37 : (((x11.2.2.tmod 4) : Int) == 0) with
           | false =>
            refine WL.eql rfl rfl rfl rfl hc37 ?_
            have hp37 := beq_eq_false_iff_ne.1 hc37
            refine pF ?_
            refine mv ?_
            refine mv ?_
            cases hc38 : (((x11.2.1.tmod 3) : Int) == 1) with
            | false =>
             refine WL.eql rfl rfl rfl rfl hc38 ?_
             have hp38 := beq_eq_false_iff_ne.1 hc38
             refine mv ?_
             refine ps ?_
             refine ps ?_
             refine pF ?_
             refine pF ?_
             refine WL.dn ?_
             refine cF ?_
             refine WC.sk ?_
             refine sq ?_
             refine mv ?_
             refine mv ?_
             refine WL.max3 (v := Nd.max3 (x11.2.1.tmod 3) (x11.2.2.tmod 4) 1) rfl rfl rfl rfl rfl rfl ?_
             refine asg ?_
             refine WL.dn ?_
             refine sq ?_
             refine mv ?_
             refine mv ?_
             refine WL.mul (v := u * (Nd.max3 (x11.2.1.tmod 3) (x11.2.2.tmod 4) 1)) rfl rfl rfl rfl (IntWalk.i64_in _ (by have h1 := Nd.mod_bd (x := x11.2.1) (n := 3) (by omega) (by decide); have h2 := Nd.mod_bd (x := x11.2.2) (n := 4) (by omega) (by decide); have := Nd.mul_bd hb3 hb4 (Nd.max3_bd (a := x11.2.1.tmod 3) (b := x11.2.2.tmod 4) (by omega) (by omega)); omega)) ?_
             cases hc39 : decide (((u * (Nd.max3 (x11.2.1.tmod 3) (x11.2.2.tmod 4) 1)) : Int) ≤ 16) with
             | false =>
              refine WL.leq rfl rfl rfl rfl hc39 ?_
              have hp39 := of_decide_eq_false hc39
              refine WL.dn ?_
              refine cF ?_
              refine WC.sk ?_
              refine WC.region ?_
              refine WL.add (v := (k : Int) + 1) rfl rfl rfl rfl (IntWalk.i64_in _ (by omega)) ?_
              refine mv ?_
              refine WL.nil (fun a_ ha => ?_)
              exact ⟨(k + 1, .slice (some ⟨eb29, 0, none⟩) pile.length capp, ⟨pile, u, gr⟩), _, ha.weaken (s4 (sr rfl (sr rfl (sr rfl (subReg_nil _))))), ⟨rfl, ((hB19.onto (hE7.trans hE16) (by omega)).trans hE33), ⟨by first | omega | (dsimp only; omega), by omega, (by rw [Nd.madeSt_succ hx11, ← hst]; simp only [Nd.stepM, hc10, hc21, hc22, hc23, hc24, hc25, hc26, hc27, hc30, hc36, hc37, hc38, hc39, Nd.mostM, Nd.empty, Nd.top_at ht29, Bool.or_true, Bool.true_or, Bool.or_false, Bool.false_or, cond_true, cond_false, Bool.true_and, Bool.false_and, Bool.and_true, Bool.and_false]), (h32.ext hE33), ((h31.ext hE33).dom (by intro k h1 _ _; (try dsimp only at h1); (repeat' first | (guard_hyp h1 : _ ∨ _; refine Or.elim h1 (fun h1 => ?_) (fun h1 => ?_)) | (guard_hyp h1 : _ ∧ _; have hx := h1.2; replace h1 := h1.1)) <;> first | contradiction | omega | (dsimp only; omega)))⟩⟩, by first | omega | (dsimp only; omega)⟩
             | true =>
              refine WL.leq rfl rfl rfl rfl hc39 ?_
              have hp39 := of_decide_eq_true hc39
              refine WL.dn ?_
              refine cT ?_
              refine sq ?_
              refine mv ?_
              refine mv ?_
              refine WL.mul (v := u * (Nd.max3 (x11.2.1.tmod 3) (x11.2.2.tmod 4) 1)) rfl rfl rfl rfl (IntWalk.i64_in _ (by have h1 := Nd.mod_bd (x := x11.2.1) (n := 3) (by omega) (by decide); have h2 := Nd.mod_bd (x := x11.2.2) (n := 4) (by omega) (by decide); have := Nd.mul_bd hb3 hb4 (Nd.max3_bd (a := x11.2.1.tmod 3) (b := x11.2.2.tmod 4) (by omega) (by omega)); omega)) ?_
              refine asg ?_
              refine WL.dn ?_
              refine WC.region ?_
              refine mv ?_
              refine mv ?_
              refine WL.sub (v := ((pile.length - 1 : Nat) : Int)) rfl rfl rfl rfl (by rw [IntWalk.i64_in _ (by omega)]; omega) ?_
              refine mv ?_
              refine mv ?_
              refine WL.sub (v := ((pile.length - 1 : Nat) : Int)) rfl rfl rfl rfl (by rw [IntWalk.i64_in _ (by omega)]; omega) ?_
              refine WL.indexAddr (i := (pile.length - 1)) rfl rfl Ty.slice24 rfl rfl rfl (by omega) ?_
              refine WL.load_agg (l := tcells t29 (.slice a29 t29.subs.length cap29)) rfl rfl Ty.agg30 rfl (her29.ext hE33) ?_
              refine mv ?_
              refine mv ?_
              refine WL.call rfl rfl rfl Ty.ent24 (rep_ok _ _ _ t29 (x11.2.1.tmod 3) (x11.2.2.tmod 4) (hn29.ext hE33)) ?_
              rintro _ w42 ⟨l40, rfl, hr40, hE41⟩
              have hzhE41 := hE41.size
              refine ⟨_, rfl, ?_⟩
              have hn40 := hr40.lt
              obtain ⟨a40, cap40, rfl, hts40, hlen40⟩ := hn40.op2
              refine WL.indexAddr (i := (pile.length - 1)) rfl rfl Ty.slice24 rfl rfl rfl (by omega) ?_
              have h45 := ((h28.ext hE33).ext hE41)
              refine WL.storeV (i := (pile.length - 1)) (T := (Nd.mk 5 Nd.zero (x11.2.1.tmod 3) (x11.2.2.tmod 4) [t29])) rfl Ty.agg30 rfl rfl h45 (by omega) hn40 (by first | (rintro k ⟨h1, h2⟩ h3; first | omega | (dsimp only at h1; omega)) | (intro k h1 h3; (try dsimp only at h1); (repeat' first | (guard_hyp h1 : _ ∨ _; refine Or.elim h1 (fun h1 => ?_) (fun h1 => ?_)) | (guard_hyp h1 : _ ∧ _; have hx := h1.2; replace h1 := h1.1)) <;> first | contradiction | omega)) (fun w46 hB44 hM43 => ?_)
              have hzhB44 := hB44.size
              refine WL.dn ?_
              refine WC.region ?_
              refine WL.add (v := (k : Int) + 1) rfl rfl rfl rfl (IntWalk.i64_in _ (by omega)) ?_
              refine mv ?_
              refine WL.nil (fun a_ ha => ?_)
              have h47 := (hB44.row ((h32.ext hE33).ext hE41) (by omega))
              exact ⟨(k + 1, .slice (some ⟨eb29, 0, none⟩) pile.length capp, ⟨(pile.set (pile.length - 1) (Nd.mk 5 Nd.zero (x11.2.1.tmod 3) (x11.2.2.tmod 4) [t29])), u * (Nd.max3 (x11.2.1.tmod 3) (x11.2.2.tmod 4) 1), gr⟩), _, ha.weaken (s4 (sr rfl (sr rfl (sr rfl (subReg_nil _))))), ⟨rfl, (hB44.onto (((hB19.onto (hE7.trans hE16) (by omega)).trans hE33).trans hE41) (by omega)), ⟨by first | omega | (dsimp only; omega), by omega, (by rw [Nd.madeSt_succ hx11, ← hst]; simp only [Nd.stepM, hc10, hc21, hc22, hc23, hc24, hc25, hc26, hc27, hc30, hc36, hc37, hc38, hc39, Nd.mostM, Nd.empty, Nd.top_at ht29, Bool.or_true, Bool.true_or, Bool.or_false, Bool.false_or, cond_true, cond_false, Bool.true_and, Bool.false_and, Bool.and_true, Bool.and_false]), h47, ((hM43).own (by rintro i b hi h1 h2 h3; (try dsimp only at h1); omega))⟩⟩, by first | omega | (dsimp only; omega)⟩
            | true =>
             refine WL.eql rfl rfl rfl rfl hc38 ?_
             have hp38 := beq_iff_eq.1 hc38
             refine mv ?_
             refine mv ?_
             cases hc39 : (((x11.2.2.tmod 4) : Int) == 1) with
             | false =>
              refine WL.eql rfl rfl rfl rfl hc39 ?_
              have hp39 := beq_eq_false_iff_ne.1 hc39
              refine pT ?_
              refine pF ?_
              refine WL.dn ?_
              refine cF ?_
              refine WC.sk ?_
              refine sq ?_
              refine mv ?_
              refine mv ?_
              refine WL.max3 (v := Nd.max3 (x11.2.1.tmod 3) (x11.2.2.tmod 4) 1) rfl rfl rfl rfl rfl rfl ?_
              refine asg ?_
              refine WL.dn ?_
              refine sq ?_
              refine mv ?_
              refine mv ?_
              refine WL.mul (v := u * (Nd.max3 (x11.2.1.tmod 3) (x11.2.2.tmod 4) 1)) rfl rfl rfl rfl (IntWalk.i64_in _ (by have h1 := Nd.mod_bd (x := x11.2.1) (n := 3) (by omega) (by decide); have h2 := Nd.mod_bd (x := x11.2.2) (n := 4) (by omega) (by decide); have := Nd.mul_bd hb3 hb4 (Nd.max3_bd (a := x11.2.1.tmod 3) (b := x11.2.2.tmod 4) (by omega) (by omega)); omega)) ?_
              cases hc40 : decide (((u * (Nd.max3 (x11.2.1.tmod 3) (x11.2.2.tmod 4) 1)) : Int) ≤ 16) with
              | false =>
               refine WL.leq rfl rfl rfl rfl hc40 ?_
               have hp40 := of_decide_eq_false hc40
               refine WL.dn ?_
               refine cF ?_
               refine WC.sk ?_
               refine WC.region ?_
               refine WL.add (v := (k : Int) + 1) rfl rfl rfl rfl (IntWalk.i64_in _ (by omega)) ?_
               refine mv ?_
               refine WL.nil (fun a_ ha => ?_)
               exact ⟨(k + 1, .slice (some ⟨eb29, 0, none⟩) pile.length capp, ⟨pile, u, gr⟩), _, ha.weaken (s4 (sr rfl (sr rfl (sr rfl (subReg_nil _))))), ⟨rfl, ((hB19.onto (hE7.trans hE16) (by omega)).trans hE33), ⟨by first | omega | (dsimp only; omega), by omega, (by rw [Nd.madeSt_succ hx11, ← hst]; simp only [Nd.stepM, hc10, hc21, hc22, hc23, hc24, hc25, hc26, hc27, hc30, hc36, hc37, hc38, hc39, hc40, Nd.mostM, Nd.empty, Nd.top_at ht29, Bool.or_true, Bool.true_or, Bool.or_false, Bool.false_or, cond_true, cond_false, Bool.true_and, Bool.false_and, Bool.and_true, Bool.and_false]), (h32.ext hE33), ((h31.ext hE33).dom (by intro k h1 _ _; (try dsimp only at h1); (repeat' first | (guard_hyp h1 : _ ∨ _; refine Or.elim h1 (fun h1 => ?_) (fun h1 => ?_)) | (guard_hyp h1 : _ ∧ _; have hx := h1.2; replace h1 := h1.1)) <;> first | contradiction | omega | (dsimp only; omega)))⟩⟩, by first | omega | (dsimp only; omega)⟩
              | true =>
               refine WL.leq rfl rfl rfl rfl hc40 ?_
               have hp40 := of_decide_eq_true hc40
               refine WL.dn ?_
               refine cT ?_
               refine sq ?_
               refine mv ?_
               refine mv ?_
               refine WL.mul (v := u * (Nd.max3 (x11.2.1.tmod 3) (x11.2.2.tmod 4) 1)) rfl rfl rfl rfl (IntWalk.i64_in _ (by have h1 := Nd.mod_bd (x := x11.2.1) (n := 3) (by omega) (by decide); have h2 := Nd.mod_bd (x := x11.2.2) (n := 4) (by omega) (by decide); have := Nd.mul_bd hb3 hb4 (Nd.max3_bd (a := x11.2.1.tmod 3) (b := x11.2.2.tmod 4) (by omega) (by omega)); omega)) ?_
               refine asg ?_
               refine WL.dn ?_
               refine WC.region ?_
               refine mv ?_
               refine mv ?_
               refine WL.sub (v := ((pile.length - 1 : Nat) : Int)) rfl rfl rfl rfl (by rw [IntWalk.i64_in _ (by omega)]; omega) ?_
               refine mv ?_
               refine mv ?_
               refine WL.sub (v := ((pile.length - 1 : Nat) : Int)) rfl rfl rfl rfl (by rw [IntWalk.i64_in _ (by omega)]; omega) ?_
               refine WL.indexAddr (i := (pile.length - 1)) rfl rfl Ty.slice24 rfl rfl rfl (by omega) ?_
               refine WL.load_agg (l := tcells t29 (.slice a29 t29.subs.length cap29)) rfl rfl Ty.agg30 rfl (her29.ext hE33) ?_
               refine mv ?_
               refine mv ?_
               refine WL.call rfl rfl rfl Ty.ent24 (rep_ok _ _ _ t29 (x11.2.1.tmod 3) (x11.2.2.tmod 4) (hn29.ext hE33)) ?_
               rintro _ w43 ⟨l41, rfl, hr41, hE42⟩
               have hzhE42 := hE42.size
               refine ⟨_, rfl, ?_⟩
               have hn41 := hr41.lt
               obtain ⟨a41, cap41, rfl, hts41, hlen41⟩ := hn41.op2
               refine WL.indexAddr (i := (pile.length - 1)) rfl rfl Ty.slice24 rfl rfl rfl (by omega) ?_
               have h46 := ((h28.ext hE33).ext hE42)
               refine WL.storeV (i := (pile.length - 1)) (T := (Nd.mk 5 Nd.zero (x11.2.1.tmod 3) (x11.2.2.tmod 4) [t29])) rfl Ty.agg30 rfl rfl h46 (by omega) hn41 (by first | (rintro k ⟨h1, h2⟩ h3; first | omega | (dsimp only at h1; omega)) | (intro k h1 h3; (try dsimp only at h1); (repeat' first | (guard_hyp h1 : _ ∨ _; refine Or.elim h1 (fun h1 => ?_) (fun h1 => ?_)) | (guard_hyp h1 : _ ∧ _; have hx := h1.2; replace h1 := h1.1)) <;> first | contradiction | omega)) (fun w47 hB45 hM44 => ?_)
               have hzhB45 := hB45.size
               refine WL.dn ?_
               refine WC.region ?_
               refine WL.add (v := (k : Int) + 1) rfl rfl rfl rfl (IntWalk.i64_in _ (by omega)) ?_
               refine mv ?_
               refine WL.nil (fun a_ ha => ?_)
               have h48 := (hB45.row ((h32.ext hE33).ext hE42) (by omega))
               exact ⟨(k + 1, .slice (some ⟨eb29, 0, none⟩) pile.length capp, ⟨(pile.set (pile.length - 1) (Nd.mk 5 Nd.zero (x11.2.1.tmod 3) (x11.2.2.tmod 4) [t29])), u * (Nd.max3 (x11.2.1.tmod 3) (x11.2.2.tmod 4) 1), gr⟩), _, ha.weaken (s4 (sr rfl (sr rfl (sr rfl (subReg_nil _))))), ⟨rfl, (hB45.onto (((hB19.onto (hE7.trans hE16) (by omega)).trans hE33).trans hE42) (by omega)), ⟨by first | omega | (dsimp only; omega), by omega, (by rw [Nd.madeSt_succ hx11, ← hst]; simp only [Nd.stepM, hc10, hc21, hc22, hc23, hc24, hc25, hc26, hc27, hc30, hc36, hc37, hc38, hc39, hc40, Nd.mostM, Nd.empty, Nd.top_at ht29, Bool.or_true, Bool.true_or, Bool.or_false, Bool.false_or, cond_true, cond_false, Bool.true_and, Bool.false_and, Bool.and_true, Bool.and_false]), h48, ((hM44).own (by rintro i b hi h1 h2 h3; (try dsimp only at h1); omega))⟩⟩, by first | omega | (dsimp only; omega)⟩
             | true =>
              refine WL.eql rfl rfl rfl rfl hc39 ?_
              have hp39 := beq_iff_eq.1 hc39
              refine pT ?_
              refine pF ?_
              refine WL.dn ?_
              refine cT ?_
              refine WC.region ?_
              refine asg ?_
              refine WL.dn ?_
              refine sq ?_
              refine mv ?_
              refine mv ?_
              refine WL.max3 (v := Nd.max3 (x11.2.1.tmod 3) (-1) 1) rfl rfl rfl rfl rfl rfl ?_
              refine asg ?_
              refine WL.dn ?_
              refine sq ?_
              refine mv ?_
              refine mv ?_
              refine WL.mul (v := u * (Nd.max3 (x11.2.1.tmod 3) (-1) 1)) rfl rfl rfl rfl (IntWalk.i64_in _ (by have h1 := Nd.mod_bd (x := x11.2.1) (n := 3) (by omega) (by decide); have h2 := Nd.mod_bd (x := x11.2.2) (n := 4) (by omega) (by decide); have := Nd.mul_bd hb3 hb4 (Nd.max3_bd (a := x11.2.1.tmod 3) (b := -1) (by omega) (by omega)); omega)) ?_
              cases hc40 : decide (((u * (Nd.max3 (x11.2.1.tmod 3) (-1) 1)) : Int) ≤ 16) with
              | false =>
               refine WL.leq rfl rfl rfl rfl hc40 ?_
               have hp40 := of_decide_eq_false hc40
               refine WL.dn ?_
               refine cF ?_
               refine WC.sk ?_
               refine WC.region ?_
               refine WL.add (v := (k : Int) + 1) rfl rfl rfl rfl (IntWalk.i64_in _ (by omega)) ?_
               refine mv ?_
               refine WL.nil (fun a_ ha => ?_)
               exact ⟨(k + 1, .slice (some ⟨eb29, 0, none⟩) pile.length capp, ⟨pile, u, gr⟩), _, ha.weaken (s4 (sr rfl (sr rfl (sr rfl (subReg_nil _))))), ⟨rfl, ((hB19.onto (hE7.trans hE16) (by omega)).trans hE33), ⟨by first | omega | (dsimp only; omega), by omega, (by rw [Nd.madeSt_succ hx11, ← hst]; simp only [Nd.stepM, hc10, hc21, hc22, hc23, hc24, hc25, hc26, hc27, hc30, hc36, hc37, hc38, hc39, hc40, Nd.mostM, Nd.empty, Nd.top_at ht29, Bool.or_true, Bool.true_or, Bool.or_false, Bool.false_or, cond_true, cond_false, Bool.true_and, Bool.false_and, Bool.and_true, Bool.and_false]), (h32.ext hE33), ((h31.ext hE33).dom (by intro k h1 _ _; (try dsimp only at h1); (repeat' first | (guard_hyp h1 : _ ∨ _; refine Or.elim h1 (fun h1 => ?_) (fun h1 => ?_)) | (guard_hyp h1 : _ ∧ _; have hx := h1.2; replace h1 := h1.1)) <;> first | contradiction | omega | (dsimp only; omega)))⟩⟩, by first | omega | (dsimp only; omega)⟩
              | true =>
               refine WL.leq rfl rfl rfl rfl hc40 ?_
               have hp40 := of_decide_eq_true hc40
               refine WL.dn ?_
               refine cT ?_
               refine sq ?_
               refine mv ?_
               refine mv ?_
               refine WL.mul (v := u * (Nd.max3 (x11.2.1.tmod 3) (-1) 1)) rfl rfl rfl rfl (IntWalk.i64_in _ (by have h1 := Nd.mod_bd (x := x11.2.1) (n := 3) (by omega) (by decide); have h2 := Nd.mod_bd (x := x11.2.2) (n := 4) (by omega) (by decide); have := Nd.mul_bd hb3 hb4 (Nd.max3_bd (a := x11.2.1.tmod 3) (b := -1) (by omega) (by omega)); omega)) ?_
               refine asg ?_
               refine WL.dn ?_
               refine WC.region ?_
               refine mv ?_
               refine mv ?_
               refine WL.sub (v := ((pile.length - 1 : Nat) : Int)) rfl rfl rfl rfl (by rw [IntWalk.i64_in _ (by omega)]; omega) ?_
               refine mv ?_
               refine mv ?_
               refine WL.sub (v := ((pile.length - 1 : Nat) : Int)) rfl rfl rfl rfl (by rw [IntWalk.i64_in _ (by omega)]; omega) ?_
               refine WL.indexAddr (i := (pile.length - 1)) rfl rfl Ty.slice24 rfl rfl rfl (by omega) ?_
               refine WL.load_agg (l := tcells t29 (.slice a29 t29.subs.length cap29)) rfl rfl Ty.agg30 rfl (her29.ext hE33) ?_
               refine mv ?_
               refine mv ?_
               refine WL.call rfl rfl rfl Ty.ent24 (rep_ok _ _ _ t29 (x11.2.1.tmod 3) (-1) (hn29.ext hE33)) ?_
               rintro _ w43 ⟨l41, rfl, hr41, hE42⟩
               have hzhE42 := hE42.size
               refine ⟨_, rfl, ?_⟩
               have hn41 := hr41.lt
               obtain ⟨a41, cap41, rfl, hts41, hlen41⟩ := hn41.op2
               refine WL.indexAddr (i := (pile.length - 1)) rfl rfl Ty.slice24 rfl rfl rfl (by omega) ?_
               have h46 := ((h28.ext hE33).ext hE42)
               refine WL.storeV (i := (pile.length - 1)) (T := (Nd.mk 5 Nd.zero (x11.2.1.tmod 3) (-1) [t29])) rfl Ty.agg30 rfl rfl h46 (by omega) hn41 (by first | (rintro k ⟨h1, h2⟩ h3; first | omega | (dsimp only at h1; omega)) | (intro k h1 h3; (try dsimp only at h1); (repeat' first | (guard_hyp h1 : _ ∨ _; refine Or.elim h1 (fun h1 => ?_) (fun h1 => ?_)) | (guard_hyp h1 : _ ∧ _; have hx := h1.2; replace h1 := h1.1)) <;> first | contradiction | omega)) (fun w47 hB45 hM44 => ?_)
               have hzhB45 := hB45.size
               refine WL.dn ?_
               refine WC.region ?_
               refine WL.add (v := (k : Int) + 1) rfl rfl rfl rfl (IntWalk.i64_in _ (by omega)) ?_
               refine mv ?_
               refine WL.nil (fun a_ ha => ?_)
               have h48 := (hB45.row ((h32.ext hE33).ext hE42) (by omega))
               exact ⟨(k + 1, .slice (some ⟨eb29, 0, none⟩) pile.length capp, ⟨(pile.set (pile.length - 1) (Nd.mk 5 Nd.zero (x11.2.1.tmod 3) (-1) [t29])), u * (Nd.max3 (x11.2.1.tmod 3) (-1) 1), gr⟩), _, ha.weaken (s4 (sr rfl (sr rfl (sr rfl (subReg_nil _))))), ⟨rfl, (hB45.onto (((hB19.onto (hE7.trans hE16) (by omega)).trans hE33).trans hE42) (by omega)), ⟨by first | omega | (dsimp only; omega), by omega, (by rw [Nd.madeSt_succ hx11, ← hst]; simp only [Nd.stepM, hc10, hc21, hc22, hc23, hc24, hc25, hc26, hc27, hc30, hc36, hc37, hc38, hc39, hc40, Nd.mostM, Nd.empty, Nd.top_at ht29, Bool.or_true, Bool.true_or, Bool.or_false, Bool.false_or, cond_true, cond_false, Bool.true_and, Bool.false_and, Bool.and_true, Bool.and_false]), h48, ((hM44).own (by rintro i b hi h1 h2 h3; (try dsimp only at h1); omega))⟩⟩, by first | omega | (dsimp only; omega)⟩
           | true =>
            refine WL.eql rfl rfl rfl rfl hc37 ?_
            have hp37 := beq_iff_eq.1 hc37
            refine pF ?_
            refine mv ?_
            refine ps ?_
            refine ps ?_
            refine ps ?_
            refine ps ?_
            refine ps ?_
            refine ps ?_
            refine pT ?_
            refine WL.dn ?_
            refine cT ?_
            refine WC.region ?_
            refine asg ?_
            refine WL.dn ?_
            refine sq ?_
            refine mv ?_
            refine mv ?_
            refine WL.max3 (v := Nd.max3 (x11.2.1.tmod 3) (-1) 1) rfl rfl rfl rfl rfl rfl ?_
            refine asg ?_
            refine WL.dn ?_
            refine sq ?_
            refine mv ?_
            refine mv ?_
            refine WL.mul (v := u * (Nd.max3 (x11.2.1.tmod 3) (-1) 1)) rfl rfl rfl rfl (IntWalk.i64_in _ (by have h1 := Nd.mod_bd (x := x11.2.1) (n := 3) (by omega) (by decide); have h2 := Nd.mod_bd (x := x11.2.2) (n := 4) (by omega) (by decide); have := Nd.mul_bd hb3 hb4 (Nd.max3_bd (a := x11.2.1.tmod 3) (b := -1) (by omega) (by omega)); omega)) ?_
            cases hc38 : decide (((u * (Nd.max3 (x11.2.1.tmod 3) (-1) 1)) : Int) ≤ 16) with
            | false =>
             refine WL.leq rfl rfl rfl rfl hc38 ?_
             have hp38 := of_decide_eq_false hc38
             refine WL.dn ?_
             refine cF ?_
             refine WC.sk ?_
             refine WC.region ?_
             refine WL.add (v := (k : Int) + 1) rfl rfl rfl rfl (IntWalk.i64_in _ (by omega)) ?_
             refine mv ?_
             refine WL.nil (fun a_ ha => ?_)
             exact ⟨(k + 1, .slice (some ⟨eb29, 0, none⟩) pile.length capp, ⟨pile, u, gr⟩), _, ha.weaken (s4 (sr rfl (sr rfl (sr rfl (subReg_nil _))))), ⟨rfl, ((hB19.onto (hE7.trans hE16) (by omega)).trans hE33), ⟨by first | omega | (dsimp only; omega), by omega, (by rw [Nd.madeSt_succ hx11, ← hst]; simp only [Nd.stepM, hc10, hc21, hc22, hc23, hc24, hc25, hc26, hc27, hc30, hc36, hc37, hc38, Nd.mostM, Nd.empty, Nd.top_at ht29, Bool.or_true, Bool.true_or, Bool.or_false, Bool.false_or, cond_true, cond_false, Bool.true_and, Bool.false_and, Bool.and_true, Bool.and_false]), (h32.ext hE33), ((h31.ext hE33).dom (by intro k h1 _ _; (try dsimp only at h1); (repeat' first | (guard_hyp h1 : _ ∨ _; refine Or.elim h1 (fun h1 => ?_) (fun h1 => ?_)) | (guard_hyp h1 : _ ∧ _; have hx := h1.2; replace h1 := h1.1)) <;> first | contradiction | omega | (dsimp only; omega)))⟩⟩, by first | omega | (dsimp only; omega)⟩
            | true =>
             refine WL.leq rfl rfl rfl rfl hc38 ?_
             have hp38 := of_decide_eq_true hc38
             refine WL.dn ?_
             refine cT ?_
             refine sq ?_
             refine mv ?_
             refine mv ?_
             refine WL.mul (v := u * (Nd.max3 (x11.2.1.tmod 3) (-1) 1)) rfl rfl rfl rfl (IntWalk.i64_in _ (by have h1 := Nd.mod_bd (x := x11.2.1) (n := 3) (by omega) (by decide); have h2 := Nd.mod_bd (x := x11.2.2) (n := 4) (by omega) (by decide); have := Nd.mul_bd hb3 hb4 (Nd.max3_bd (a := x11.2.1.tmod 3) (b := -1) (by omega) (by omega)); omega)) ?_
             refine asg ?_
             refine WL.dn ?_
             refine WC.region ?_
             refine mv ?_
             refine mv ?_
             refine WL.sub (v := ((pile.length - 1 : Nat) : Int)) rfl rfl rfl rfl (by rw [IntWalk.i64_in _ (by omega)]; omega) ?_
             refine mv ?_
             refine mv ?_
             refine WL.sub (v := ((pile.length - 1 : Nat) : Int)) rfl rfl rfl rfl (by rw [IntWalk.i64_in _ (by omega)]; omega) ?_
             refine WL.indexAddr (i := (pile.length - 1)) rfl rfl Ty.slice24 rfl rfl rfl (by omega) ?_
             refine WL.load_agg (l := tcells t29 (.slice a29 t29.subs.length cap29)) rfl rfl Ty.agg30 rfl (her29.ext hE33) ?_
             refine mv ?_
             refine mv ?_
             refine WL.call rfl rfl rfl Ty.ent24 (rep_ok _ _ _ t29 (x11.2.1.tmod 3) (-1) (hn29.ext hE33)) ?_
             rintro _ w41 ⟨l39, rfl, hr39, hE40⟩
             have hzhE40 := hE40.size
             refine ⟨_, rfl, ?_⟩
             have hn39 := hr39.lt
             obtain ⟨a39, cap39, rfl, hts39, hlen39⟩ := hn39.op2
             refine WL.indexAddr (i := (pile.length - 1)) rfl rfl Ty.slice24 rfl rfl rfl (by omega) ?_
             have h44 := ((h28.ext hE33).ext hE40)
             refine WL.storeV (i := (pile.length - 1)) (T := (Nd.mk 5 Nd.zero (x11.2.1.tmod 3) (-1) [t29])) rfl Ty.agg30 rfl rfl h44 (by omega) hn39 (by first | (rintro k ⟨h1, h2⟩ h3; first | omega | (dsimp only at h1; omega)) | (intro k h1 h3; (try dsimp only at h1); (repeat' first | (guard_hyp h1 : _ ∨ _; refine Or.elim h1 (fun h1 => ?_) (fun h1 => ?_)) | (guard_hyp h1 : _ ∧ _; have hx := h1.2; replace h1 := h1.1)) <;> first | contradiction | omega)) (fun w45 hB43 hM42 => ?_)
             have hzhB43 := hB43.size
             refine WL.dn ?_
             refine WC.region ?_
             refine WL.add (v := (k : Int) + 1) rfl rfl rfl rfl (IntWalk.i64_in _ (by omega)) ?_
             refine mv ?_
             refine WL.nil (fun a_ ha => ?_)
             have h46 := (hB43.row ((h32.ext hE33).ext hE40) (by omega))
             exact ⟨(k + 1, .slice (some ⟨eb29, 0, none⟩) pile.length capp, ⟨(pile.set (pile.length - 1) (Nd.mk 5 Nd.zero (x11.2.1.tmod 3) (-1) [t29])), u * (Nd.max3 (x11.2.1.tmod 3) (-1) 1), gr⟩), _, ha.weaken (s4 (sr rfl (sr rfl (sr rfl (subReg_nil _))))), ⟨rfl, (hB43.onto (((hB19.onto (hE7.trans hE16) (by omega)).trans hE33).trans hE40) (by omega)), ⟨by first | omega | (dsimp only; omega), by omega, (by rw [Nd.madeSt_succ hx11, ← hst]; simp only [Nd.stepM, hc10, hc21, hc22, hc23, hc24, hc25, hc26, hc27, hc30, hc36, hc37, hc38, Nd.mostM, Nd.empty, Nd.top_at ht29, Bool.or_true, Bool.true_or, Bool.or_false, Bool.false_or, cond_true, cond_false, Bool.true_and, Bool.false_and, Bool.and_true, Bool.and_false]), h46, ((hM42).own (by rintro i b hi h1 h2 h3; (try dsimp only at h1); omega))⟩⟩, by first | omega | (dsimp only; omega)⟩
          | true =>
           refine WL.lss rfl rfl rfl rfl hc36 ?_
           have hp36 := of_decide_eq_true hc36
           refine mv ?_
           refine ps ?_
           refine ps ?_
           refine pT ?_
           refine mv ?_
           refine ps ?_
           refine ps ?_
           refine ps ?_
           refine ps ?_
           refine ps ?_
           refine ps ?_
           refine pT ?_
           refine WL.dn ?_
           refine cT ?_
           refine WC.region ?_
           refine asg ?_
           refine WL.dn ?_
           refine sq ?_
           refine mv ?_
           refine mv ?_
           refine WL.max3 (v := Nd.max3 (x11.2.1.tmod 3) (-1) 1) rfl rfl rfl rfl rfl rfl ?_
           refine asg ?_
           refine WL.dn ?_
           refine sq ?_
           refine mv ?_
           refine mv ?_
           refine WL.mul (v := u * (Nd.max3 (x11.2.1.tmod 3) (-1) 1)) rfl rfl rfl rfl (IntWalk.i64_in _ (by have h1 := Nd.mod_bd (x := x11.2.1) (n := 3) (by omega) (by decide); have h2 := Nd.mod_bd (x := x11.2.2) (n := 4) (by omega) (by decide); have := Nd.mul_bd hb3 hb4 (Nd.max3_bd (a := x11.2.1.tmod 3) (b := -1) (by omega) (by omega)); omega)) ?_
           cases hc37 : decide (((u * (Nd.max3 (x11.2.1.tmod 3) (-1) 1)) : Int) ≤ 16) with
           | false =>
            refine WL.leq rfl rfl rfl rfl hc37 ?_
            have hp37 := of_decide_eq_false hc37
            refine WL.dn ?_
            refine cF ?_
            refine WC.sk ?_
            refine WC.region ?_
            refine WL.add (v := (k : Int) + 1) rfl rfl rfl rfl (IntWalk.i64_in _ (by omega)) ?_
            refine mv ?_
            refine WL.nil (fun a_ ha => ?_)
            exact ⟨(k + 1, .slice (some ⟨eb29, 0, none⟩) pile.length capp, ⟨pile, u, gr⟩), _, ha.weaken (s4 (sr rfl (sr rfl (sr rfl (subReg_nil _))))), ⟨rfl, ((hB19.onto (hE7.trans hE16) (by omega)).trans hE33), ⟨by first | omega | (dsimp only; omega), by omega, (by rw [Nd.madeSt_succ hx11, ← hst]; simp only [Nd.stepM, hc10, hc21, hc22, hc23, hc24, hc25, hc26, hc27, hc30, hc36, hc37, Nd.mostM, Nd.empty, Nd.top_at ht29, Bool.or_true, Bool.true_or, Bool.or_false, Bool.false_or, cond_true, cond_false, Bool.true_and, Bool.false_and, Bool.and_true, Bool.and_false]), (h32.ext hE33), ((h31.ext hE33).dom (by intro k h1 _ _; (try dsimp only at h1); (repeat' first | (guard_hyp h1 : _ ∨ _; refine Or.elim h1 (fun h1 => ?_) (fun h1 => ?_)) | (guard_hyp h1 : _ ∧ _; have hx := h1.2; replace h1 := h1.1)) <;> first | contradiction | omega | (dsimp only; omega)))⟩⟩, by first | omega | (dsimp only; omega)⟩
           | true =>
            refine WL.leq rfl rfl rfl rfl hc37 ?_
            have hp37 := of_decide_eq_true hc37
            refine WL.dn ?_
            refine cT ?_
            refine sq ?_
            refine mv ?_
            refine mv ?_
            refine WL.mul (v := u * (Nd.max3 (x11.2.1.tmod 3) (-1) 1)) rfl rfl rfl rfl (IntWalk.i64_in _ (by have h1 := Nd.mod_bd (x := x11.2.1) (n := 3) (by omega) (by decide); have h2 := Nd.mod_bd (x := x11.2.2) (n := 4) (by omega) (by decide); have := Nd.mul_bd hb3 hb4 (Nd.max3_bd (a := x11.2.1.tmod 3) (b := -1) (by omega) (by omega)); omega)) ?_
            refine asg ?_
            refine WL.dn ?_
            refine WC.region ?_
            refine mv ?_
            refine mv ?_
            refine WL.sub (v := ((pile.length - 1 : Nat) : Int)) rfl rfl rfl rfl (by rw [IntWalk.i64_in _ (by omega)]; omega) ?_
            refine mv ?_
            refine mv ?_
            refine WL.sub (v := ((pile.length - 1 : Nat) : Int)) rfl rfl rfl rfl (by rw [IntWalk.i64_in _ (by omega)]; omega) ?_
            refine WL.indexAddr (i := (pile.length - 1)) rfl rfl Ty.slice24 rfl rfl rfl (by omega) ?_
            refine WL.load_agg (l := tcells t29 (.slice a29 t29.subs.length cap29)) rfl rfl Ty.agg30 rfl (her29.ext hE33) ?_
            refine mv ?_
            refine mv ?_
            refine WL.call rfl rfl rfl Ty.ent24 (rep_ok _ _ _ t29 (x11.2.1.tmod 3) (-1) (hn29.ext hE33)) ?_
            rintro _ w40 ⟨l38, rfl, hr38, hE39⟩
            have hzhE39 := hE39.size
            refine ⟨_, rfl, ?_⟩
            have hn38 := hr38.lt
            obtain ⟨a38, cap38, rfl, hts38, hlen38⟩ := hn38.op2
            refine WL.indexAddr (i := (pile.length - 1)) rfl rfl Ty.slice24 rfl rfl rfl (by omega) ?_
            have h43 := ((h28.ext hE33).ext hE39)
            refine WL.storeV (i := (pile.length - 1)) (T := (Nd.mk 5 Nd.zero (x11.2.1.tmod 3) (-1) [t29])) rfl Ty.agg30 rfl rfl h43 (by omega) hn38 (by first | (rintro k ⟨h1, h2⟩ h3; first | omega | (dsimp only at h1; omega)) | (intro k h1 h3; (try dsimp only at h1); (repeat' first | (guard_hyp h1 : _ ∨ _; refine Or.elim h1 (fun h1 => ?_) (fun h1 => ?_)) | (guard_hyp h1 : _ ∧ _; have hx := h1.2; replace h1 := h1.1)) <;> first | contradiction | omega)) (fun w44 hB42 hM41 => ?_)
            have hzhB42 := hB42.size
            refine WL.dn ?_
            refine WC.region ?_
            refine WL.add (v := (k : Int) + 1) rfl rfl rfl rfl (IntWalk.i64_in _ (by omega)) ?_
            refine mv ?_
            refine WL.nil (fun a_ ha => ?_)
            have h45 := (hB42.row ((h32.ext hE33).ext hE39) (by omega))
            exact ⟨(k + 1, .slice (some ⟨eb29, 0, none⟩) pile.length capp, ⟨(pile.set (pile.length - 1) (Nd.mk 5 Nd.zero (x11.2.1.tmod 3) (-1) [t29])), u * (Nd.max3 (x11.2.1.tmod 3) (-1) 1), gr⟩), _, ha.weaken (s4 (sr rfl (sr rfl (sr rfl (subReg_nil _))))), ⟨rfl, (hB42.onto (((hB19.onto (hE7.trans hE16) (by omega)).trans hE33).trans hE39) (by omega)), ⟨by first | omega | (dsimp only; omega), by omega, (by rw [Nd.madeSt_succ hx11, ← hst]; simp only [Nd.stepM, hc10, hc21, hc22, hc23, hc24, hc25, hc26, hc27, hc30, hc36, hc37, Nd.mostM, Nd.empty, Nd.top_at ht29, Bool.or_true, Bool.true_or, Bool.or_false, Bool.false_or, cond_true, cond_false, Bool.true_and, Bool.false_and, Bool.and_true, Bool.and_false]), h45, ((hM41).own (by rintro i b hi h1 h2 h3; (try dsimp only at h1); omega))⟩⟩, by first | omega | (dsimp only; omega)⟩
      | true =>
       refine WL.eql rfl rfl rfl rfl hc25 ?_
       have hp25 := beq_iff_eq.1 hc25
       refine mv ?_
       refine mv ?_
       cases hc26 : decide ((0 : Int) < pile.length) with
       | false =>
        refine WL.gtr rfl rfl rfl rfl hc26 ?_
        have hp26 := of_decide_eq_false hc26
        refine pT ?_
        refine mv ?_
        refine ps ?_
        refine ps ?_
        refine pF ?_
        refine asg ?_
        refine WL.dn ?_
        refine cF ?_
        refine sq ?_
        refine mv ?_
        have hc27 : decide ((9 : Int) < (x11.1.tmod 12)) = false := decide_eq_false (by omega)
        refine WL.gtr rfl rfl rfl rfl hc27 ?_
        refine mv ?_
        refine ps ?_
        refine ps ?_
        refine pF ?_
        refine mv ?_
        refine ps ?_
        refine ps ?_
        refine ps ?_
        refine ps ?_
        refine ps ?_
        refine ps ?_
        refine ps ?_
        refine pF ?_
        refine asg ?_
        refine WL.dn ?_
        refine cF ?_
        refine WC.sk ?_
        refine WC.region ?_
        refine WL.add (v := (k : Int) + 1) rfl rfl rfl rfl (IntWalk.i64_in _ (by omega)) ?_
        refine mv ?_
        refine WL.nil (fun a_ ha => ?_)
        have h28 := ((hO.ext hE16).but hB19 (fun h1 => by first | omega | (dsimp only at h1; omega)) (fun hk => by have := (hO.ext hE16).own _ hk; have := hol _ hk; omega))
        have h29 := (hB19.row (hR2.ext hE16) (by omega))
        exact ⟨(k + 1, .slice ap pile.length capp, ⟨pile, u, gr⟩), _, ha.weaken (s4 (sr rfl (sr rfl (sr rfl (subReg_nil _))))), ⟨rfl, (hB19.onto (hE7.trans hE16) (by omega)), ⟨by first | omega | (dsimp only; omega), by omega, (by rw [Nd.madeSt_succ hx11, ← hst]; simp only [Nd.stepM, hc10, hc21, hc22, hc23, hc24, hc25, hc26, hc27, Nd.mostM, Nd.empty, Bool.or_true, Bool.true_or, Bool.or_false, Bool.false_or, cond_true, cond_false, Bool.true_and, Bool.false_and, Bool.and_true, Bool.and_false]), h29, (h28.dom (by intro k h1 _ _; (try dsimp only at h1); (repeat' first | (guard_hyp h1 : _ ∨ _; refine Or.elim h1 (fun h1 => ?_) (fun h1 => ?_)) | (guard_hyp h1 : _ ∧ _; have hx := h1.2; replace h1 := h1.1)) <;> first | contradiction | omega | (dsimp only; omega)))⟩⟩, by first | omega | (dsimp only; omega)⟩
       | true =>
        refine WL.gtr rfl rfl rfl rfl hc26 ?_
        have hp26 := of_decide_eq_true hc26
        refine pT ?_
        refine mv ?_
        refine mv ?_
        cases hc27 : decide ((gr : Int) < 9) with
        | false =>
         refine WL.lss rfl rfl rfl rfl hc27 ?_
         have hp27 := of_decide_eq_false hc27
         refine pT ?_
         refine asg ?_
         refine WL.dn ?_
         refine cF ?_
         refine sq ?_
         refine mv ?_
         have hc28 : decide ((9 : Int) < (x11.1.tmod 12)) = false := decide_eq_false (by omega)
         refine WL.gtr rfl rfl rfl rfl hc28 ?_
         refine mv ?_
         refine ps ?_
         refine ps ?_
         refine pF ?_
         refine mv ?_
         refine ps ?_
         refine ps ?_
         refine ps ?_
         refine ps ?_
         refine ps ?_
         refine ps ?_
         refine ps ?_
         refine pF ?_
         refine asg ?_
         refine WL.dn ?_
         refine cF ?_
         refine WC.sk ?_
         refine WC.region ?_
         refine WL.add (v := (k : Int) + 1) rfl rfl rfl rfl (IntWalk.i64_in _ (by omega)) ?_
         refine mv ?_
         refine WL.nil (fun a_ ha => ?_)
         have h29 := ((hO.ext hE16).but hB19 (fun h1 => by first | omega | (dsimp only at h1; omega)) (fun hk => by have := (hO.ext hE16).own _ hk; have := hol _ hk; omega))
         have h30 := (hB19.row (hR2.ext hE16) (by omega))
         exact ⟨(k + 1, .slice ap pile.length capp, ⟨pile, u, gr⟩), _, ha.weaken (s4 (sr rfl (sr rfl (sr rfl (subReg_nil _))))), ⟨rfl, (hB19.onto (hE7.trans hE16) (by omega)), ⟨by first | omega | (dsimp only; omega), by omega, (by rw [Nd.madeSt_succ hx11, ← hst]; simp only [Nd.stepM, hc10, hc21, hc22, hc23, hc24, hc25, hc26, hc27, hc28, Nd.mostM, Nd.empty, Bool.or_true, Bool.true_or, Bool.or_false, Bool.false_or, cond_true, cond_false, Bool.true_and, Bool.false_and, Bool.and_true, Bool.and_false]), h30, (h29.dom (by intro k h1 _ _; (try dsimp only at h1); (repeat' first | (guard_hyp h1 : _ ∨ _; refine Or.elim h1 (fun h1 => ?_) (fun h1 => ?_)) | (guard_hyp h1 : _ ∧ _; have hx := h1.2; replace h1 := h1.1)) <;> first | contradiction | omega | (dsimp only; omega)))⟩⟩, by first | omega | (dsimp only; omega)⟩
        | true =>
         refine WL.lss rfl rfl rfl rfl hc27 ?_
         have hp27 := of_decide_eq_true hc27
         refine pT ?_
         refine asg ?_
         refine WL.dn ?_
         refine cT ?_
         refine sq ?_
         refine mv ?_
         refine mv ?_
         refine WL.sub (v := ((pile.length - 1 : Nat) : Int)) rfl rfl rfl rfl (by rw [IntWalk.i64_in _ (by omega)]; omega) ?_
         refine mv ?_
         refine mv ?_
         refine WL.sub (v := ((pile.length - 1 : Nat) : Int)) rfl rfl rfl rfl (by rw [IntWalk.i64_in _ (by omega)]; omega) ?_
         have h28 := ((hM.ext hE16).but hB19 (by rintro i hi ⟨h1, h2⟩; first | omega | (dsimp only at h1; omega) | ((try dsimp only at h1); (repeat' first | (guard_hyp h1 : _ ∨ _; refine Or.elim h1 (fun h1 => ?_) (fun h1 => ?_)) | (guard_hyp h1 : _ ∧ _; have hx := h1.2; replace h1 := h1.1)) <;> first | contradiction | omega)) (fun hk => by have := (hM.ext hE16).block _ hk; have := hol _ hk; omega))
         obtain ⟨t29, ht29⟩ : ∃ t, pile[(pile.length - 1)]? = some t := ⟨_, List.getElem?_eq_getElem (by omega)⟩
         obtain ⟨eb29, el29, hea29, hgb29, hgl29, her29, hn29⟩ := h28.at ht29
         obtain ⟨a29, cap29, rfl, hts29, hlen29⟩ := hn29.op2
         subst hea29
         refine WL.indexAddr (i := (pile.length - 1)) rfl rfl Ty.slice24 rfl rfl rfl (by omega) ?_
         refine WL.load_agg (l := tcells t29 (.slice a29 t29.subs.length cap29)) rfl rfl Ty.agg30 rfl her29 ?_
         refine WL.call rfl rfl rfl Ty.ent23 (group_ok _ _ _ t29 hn29) ?_
         rintro _ w32 ⟨l30, rfl, hr30, hE31⟩
         have hzhE31 := hE31.size
         refine ⟨_, rfl, ?_⟩
         have hn30 := hr30.lt
         obtain ⟨a30, cap30, rfl, hts30, hlen30⟩ := hn30.op2
         refine WL.indexAddr (i := (pile.length - 1)) rfl rfl Ty.slice24 rfl rfl rfl (by omega) ?_
         refine WL.storeV (i := (pile.length - 1)) (T := (Nd.mk 6 Nd.zero 0 0 [t29])) rfl Ty.agg30 rfl rfl (h28.ext hE31) (by omega) hn30 (by first | (rintro k ⟨h1, h2⟩ h3; first | omega | (dsimp only at h1; omega)) | (intro k h1 h3; (try dsimp only at h1); (repeat' first | (guard_hyp h1 : _ ∨ _; refine Or.elim h1 (fun h1 => ?_) (fun h1 => ?_)) | (guard_hyp h1 : _ ∧ _; have hx := h1.2; replace h1 := h1.1)) <;> first | contradiction | omega)) (fun w35 hB34 hM33 => ?_)
         have hzhB34 := hB34.size
         refine WL.dn ?_
         refine WC.region ?_
         refine mv ?_
         refine WL.add (v := gr + 1) rfl rfl rfl rfl (IntWalk.i64_in _ (by omega)) ?_
         refine asg ?_
         refine WL.dn ?_
         refine WC.region ?_
         refine WL.add (v := (k : Int) + 1) rfl rfl rfl rfl (IntWalk.i64_in _ (by omega)) ?_
         refine mv ?_
         refine WL.nil (fun a_ ha => ?_)
         have h36 := (hB34.row ((hB19.row (hR2.ext hE16) (by omega)).ext hE31) (by omega))
         exact ⟨(k + 1, .slice (some ⟨eb29, 0, none⟩) pile.length capp, ⟨(pile.set (pile.length - 1) (Nd.mk 6 Nd.zero 0 0 [t29])), u, gr + 1⟩), _, ha.weaken (s4 (sr rfl (sr rfl (sr rfl (subReg_nil _))))), ⟨rfl, (hB34.onto ((hB19.onto (hE7.trans hE16) (by omega)).trans hE31) (by omega)), ⟨by first | omega | (dsimp only; omega), by omega, (by rw [Nd.madeSt_succ hx11, ← hst]; simp only [Nd.stepM, hc10, hc21, hc22, hc23, hc24, hc25, hc26, hc27, Nd.mostM, Nd.empty, Nd.top_at ht29, Bool.or_true, Bool.true_or, Bool.or_false, Bool.false_or, cond_true, cond_false, Bool.true_and, Bool.false_and, Bool.and_true, Bool.and_false]), h36, ((hM33).own (by rintro i b hi h1 h2 h3; (try dsimp only at h1); omega))⟩⟩, by first | omega | (dsimp only; omega)⟩
     | true =>
      refine WL.lss rfl rfl rfl rfl hc24 ?_
      have hp24 := of_decide_eq_true hc24
      refine mv ?_
      refine mv ?_
      cases hc25 : decide ((1 : Int) < pile.length) with
      | false =>
       refine WL.gtr rfl rfl rfl rfl hc25 ?_
       have hp25 := of_decide_eq_false hc25
       refine pT ?_
       refine asg ?_
       refine WL.dn ?_
       refine cF ?_
       refine sq ?_
       refine mv ?_
       have hc26 : (((x11.1.tmod 12) : Int) == 9) = false := beq_eq_false_iff_ne.2 (by omega)
       refine WL.eql rfl rfl rfl rfl hc26 ?_
       refine mv ?_
       refine ps ?_
       refine ps ?_
       refine pF ?_
       refine mv ?_
       refine ps ?_
       refine ps ?_
       refine pF ?_
       refine asg ?_
       refine WL.dn ?_
       refine cF ?_
       refine sq ?_
       refine mv ?_
       have hc27 : decide ((9 : Int) < (x11.1.tmod 12)) = false := decide_eq_false (by omega)
       refine WL.gtr rfl rfl rfl rfl hc27 ?_
       refine mv ?_
       refine ps ?_
       refine ps ?_
       refine pF ?_
       refine mv ?_
       refine ps ?_
       refine ps ?_
       refine ps ?_
       refine ps ?_
       refine ps ?_
       refine ps ?_
       refine ps ?_
       refine pF ?_
       refine asg ?_
       refine WL.dn ?_
       refine cF ?_
       refine WC.sk ?_
       refine WC.region ?_
       refine WL.add (v := (k : Int) + 1) rfl rfl rfl rfl (IntWalk.i64_in _ (by omega)) ?_
       refine mv ?_
       refine WL.nil (fun a_ ha => ?_)
       have h28 := ((hO.ext hE16).but hB19 (fun h1 => by first | omega | (dsimp only at h1; omega)) (fun hk => by have := (hO.ext hE16).own _ hk; have := hol _ hk; omega))
       have h29 := (hB19.row (hR2.ext hE16) (by omega))
       exact ⟨(k + 1, .slice ap pile.length capp, ⟨pile, u, gr⟩), _, ha.weaken (s4 (sr rfl (sr rfl (sr rfl (subReg_nil _))))), ⟨rfl, (hB19.onto (hE7.trans hE16) (by omega)), ⟨by first | omega | (dsimp only; omega), by omega, (by rw [Nd.madeSt_succ hx11, ← hst]; simp only [Nd.stepM, hc10, hc21, hc22, hc23, hc24, hc25, hc26, hc27, Nd.mostM, Nd.empty, Bool.or_true, Bool.true_or, Bool.or_false, Bool.false_or, cond_true, cond_false, Bool.true_and, Bool.false_and, Bool.and_true, Bool.and_false]), h29, (h28.dom (by intro k h1 _ _; (try dsimp only at h1); (repeat' first | (guard_hyp h1 : _ ∨ _; refine Or.elim h1 (fun h1 => ?_) (fun h1 => ?_)) | (guard_hyp h1 : _ ∧ _; have hx := h1.2; replace h1 := h1.1)) <;> first | contradiction | omega | (dsimp only; omega)))⟩⟩, by first | omega | (dsimp only; omega)⟩
      | true =>
       refine WL.gtr rfl rfl rfl rfl hc25 ?_
       have hp25 := of_decide_eq_true hc25
       refine pT ?_
       refine asg ?_
       refine WL.dn ?_
       refine cT ?_
       have h26 := ((hM.ext hE16).but hB19 (by rintro i hi ⟨h1, h2⟩; first | omega | (dsimp only at h1; omega) | ((try dsimp only at h1); (repeat' first | (guard_hyp h1 : _ ∨ _; refine Or.elim h1 (fun h1 => ?_) (fun h1 => ?_)) | (guard_hyp h1 : _ ∧ _; have hx := h1.2; replace h1 := h1.1)) <;> first | contradiction | omega)) (fun hk => by have := (hM.ext hE16).block _ hk; have := hol _ hk; omega))
       obtain ⟨t27, ht27⟩ : ∃ t, pile[(pile.length - 2)]? = some t := ⟨_, List.getElem?_eq_getElem (by omega)⟩
       obtain ⟨eb27, el27, hea27, hgb27, hgl27, her27, hn27⟩ := h26.at ht27
       obtain ⟨a27, cap27, rfl, hts27, hlen27⟩ := hn27.op2
       subst hea27
       obtain ⟨t28, ht28⟩ : ∃ t, pile[(pile.length - 1)]? = some t := ⟨_, List.getElem?_eq_getElem (by omega)⟩
       obtain ⟨eb28, el28, hea28, hgb28, hgl28, her28, hn28⟩ := h26.at ht28
       obtain ⟨a28, cap28, rfl, hts28, hlen28⟩ := hn28.op2
       cases hea28
       have h29 := ((hO.ext hE16).but hB19 (fun h1 => by first | omega | (dsimp only at h1; omega)) (fun hk => by have := (hO.ext hE16).own _ hk; have := hol _ hk; omega))
       have h30 := (hB19.row (hR2.ext hE16) (by omega))
       refine WC.weaken (r' := [(2, pt b1 0), (20, .slice (some ⟨eb11, eo11, none⟩) ((xs.take 25).length) cap), (21, .int .i64 ((xs.take 25).length)), (22, .int .i64 (k : Int)), (3, .slice (some ⟨eb27, 0, none⟩) pile.length capp), (4, .int .i64 u), (5, .int .i64 gr), (23, .bool true), (24, pt eb11 (eo11 + k * 3)), (25, .agg #[.int .u8 x11.1, .int .u8 x11.2.1, .int .u8 x11.2.2]), (7, pt b12 0), (26, .slice (some ⟨eb27, 0, none⟩) pile.length capp), (27, .int .i64 pile.length), (8, .int .i64 pile.length), (28, pt b12 0), (29, .int .u8 x11.1), (30, .int .u8 (x11.1.tmod 12)), (9, .int .u8 (x11.1.tmod 12)), (32, .int .u8 (x11.1.tmod 12)), (33, .bool false), (31, .bool false), (42, .int .u8 (x11.1.tmod 12)), (43, .bool false), (41, .bool false), (49, .int .u8 (x11.1.tmod 12)), (50, .bool false), (51, .bool false), (52, undef), (53, undef), (54, .bool false), (48, .bool false), (75, .int .u8 (x11.1.tmod 12)), (76, .bool true), (77, .bool true), (78, .int .i64 pile.length), (79, .bool true), (80, .bool true), (74, .bool true)]) (s4 (s4 (s4 (s4 (s4 (s4 (s4 (s4 (s4 (sr rfl (sr rfl (subReg_nil _)))))))))))) ?_
       refine WC.draw 19 [81, 82, 83, 84, 85, 86, 87, 88, 89, 90, 91, 92, 93, 94, 95, 96, 97, 98, 99] [pc (.slice (some ⟨eb27, 0, none⟩) pile.length capp), pc (.int .i64 pile.length), pc (.int .i64 ((pile.length - 2 : Nat) : Int)), pc (.int .i64 pile.length), pc (.int .i64 ((pile.length - 2 : Nat) : Int)), pc (.slice (some ⟨eb27, 0, none⟩) (pile.length - 2) (pile.length - 2)), pc (.slice (some ⟨eb27, 0, none⟩) pile.length capp), pc (.int .i64 pile.length), pc (.int .i64 ((pile.length - 2 : Nat) : Int)), pc (pt eb27 (0 + (pile.length - 2) * 8)), pc (.agg (tcells t27 (.slice a27 t27.subs.length cap27)).toArray), pc (.slice (some ⟨eb27, 0, none⟩) pile.length capp), pc (.int .i64 pile.length), pc (.int .i64 ((pile.length - 1 : Nat) : Int)), pc (pt eb27 (0 + (pile.length - 1) * 8)), pc (.agg (tcells t28 (.slice a28 t28.subs.length cap28)).toArray), pnode (fun k => w6.heap.size ≤ k) (Nd.joins 4 t27 t28), pnodes (fun k => w6.heap.size ≤ k) ([(Nd.joins 4 t27 t28)]), pown 30 w6.heap.size (fun k => w6.heap.size ≤ k) (pile.take (pile.length - 2) ++ [(Nd.joins 4 t27 t28)])] (by kernel_rfl) (by kernel_rfl) (k4 (k4 (k4 (k4 ⟨KW_pnode _ _, KW_pnodes _ _, KW_pown _ _ _ _, trivial⟩)))) rfl rfl rfl (sc4 ?_ ?_ ?_ ?_ (sc4 ?_ ?_ ?_ ?_ (sc4 ?_ ?_ ?_ ?_ (sc4 ?_ ?_ ?_ ?_ (sc ?_ (sc ?_ (sc ?_ (StepsOn.nil _)))))))) ?_
       ·intro σ β w1 hE1 hbi hk
        refine ⟨[], (agree_nil _), ?_⟩
        refine mv ?_
        exact dq hbi rfl
       ·intro σ β w1 hE1 hbi hk
        refine ⟨[], (agree_nil _), ?_⟩
        refine mv ?_
        exact dq hbi rfl
       ·intro σ β w1 hE1 hbi hk
        have hz1 := hE1.size
        refine ⟨[(82, .int .i64 pile.length)], (ak hk 1 (agree_nil _)), ?_⟩
        refine WL.sub (v := ((pile.length - 2 : Nat) : Int)) rfl rfl rfl rfl (by rw [IntWalk.i64_in _ (by omega)]; omega) ?_
        exact dq hbi rfl
       ·intro σ β w1 hE1 hbi hk
        refine ⟨[], (agree_nil _), ?_⟩
        refine mv ?_
        exact dq hbi rfl
       ·intro σ β w1 hE1 hbi hk
        have hz1 := hE1.size
        refine ⟨[(84, .int .i64 pile.length)], (ak hk 3 (agree_nil _)), ?_⟩
        refine WL.sub (v := ((pile.length - 2 : Nat) : Int)) rfl rfl rfl rfl (by rw [IntWalk.i64_in _ (by omega)]; omega) ?_
        exact dq hbi rfl
       ·intro σ β w1 hE1 hbi hk
        have hz1 := hE1.size
        refine ⟨[(81, .slice (some ⟨eb27, 0, none⟩) pile.length capp), (83, .int .i64 ((pile.length - 2 : Nat) : Int)), (85, .int .i64 ((pile.length - 2 : Nat) : Int))], (ak hk 0 (ak hk 2 (ak hk 4 (agree_nil _)))), ?_⟩
        refine WL.slice_hm (m := pile.length - 2) rfl rfl Ty.slice24 rfl rfl rfl (by omega) (by omega) (by omega) ?_
        exact dq hbi rfl
       ·intro σ β w1 hE1 hbi hk
        refine ⟨[], (agree_nil _), ?_⟩
        refine mv ?_
        exact dq hbi rfl
       ·intro σ β w1 hE1 hbi hk
        refine ⟨[], (agree_nil _), ?_⟩
        refine mv ?_
        exact dq hbi rfl
       ·intro σ β w1 hE1 hbi hk
        have hz1 := hE1.size
        refine ⟨[(88, .int .i64 pile.length)], (ak hk 7 (agree_nil _)), ?_⟩
        refine WL.sub (v := ((pile.length - 2 : Nat) : Int)) rfl rfl rfl rfl (by rw [IntWalk.i64_in _ (by omega)]; omega) ?_
        exact dq hbi rfl
       ·intro σ β w1 hE1 hbi hk
        have hz1 := hE1.size
        refine ⟨[(87, .slice (some ⟨eb27, 0, none⟩) pile.length capp), (89, .int .i64 ((pile.length - 2 : Nat) : Int))], (ak hk 6 (ak hk 8 (agree_nil _))), ?_⟩
        refine WL.indexAddr (i := (pile.length - 2)) rfl rfl Ty.slice24 rfl rfl rfl (by omega) ?_
        exact dq hbi rfl
       ·intro σ β w1 hE1 hbi hk
        refine ⟨[(90, pt eb27 (0 + (pile.length - 2) * 8))], (ak hk 9 (agree_nil _)), ?_⟩
        refine WL.load_agg (l := tcells t27 (.slice a27 t27.subs.length cap27)) rfl rfl Ty.agg30 rfl (her27.ext hE1) ?_
        exact dq hbi rfl
       ·intro σ β w1 hE1 hbi hk
        refine ⟨[], (agree_nil _), ?_⟩
        refine mv ?_
        exact dq hbi rfl
       ·intro σ β w1 hE1 hbi hk
        refine ⟨[], (agree_nil _), ?_⟩
        refine mv ?_
        exact dq hbi rfl
       ·intro σ β w1 hE1 hbi hk
        have hz1 := hE1.size
        refine ⟨[(93, .int .i64 pile.length)], (ak hk 12 (agree_nil _)), ?_⟩
        refine WL.sub (v := ((pile.length - 1 : Nat) : Int)) rfl rfl rfl rfl (by rw [IntWalk.i64_in _ (by omega)]; omega) ?_
        exact dq hbi rfl
       ·intro σ β w1 hE1 hbi hk
        have hz1 := hE1.size
        refine ⟨[(92, .slice (some ⟨eb27, 0, none⟩) pile.length capp), (94, .int .i64 ((pile.length - 1 : Nat) : Int))], (ak hk 11 (ak hk 13 (agree_nil _))), ?_⟩
        refine WL.indexAddr (i := (pile.length - 1)) rfl rfl Ty.slice24 rfl rfl rfl (by omega) ?_
        exact dq hbi rfl
       ·intro σ β w1 hE1 hbi hk
        refine ⟨[(95, pt eb27 (0 + (pile.length - 1) * 8))], (ak hk 14 (agree_nil _)), ?_⟩
        refine WL.load_agg (l := tcells t28 (.slice a28 t28.subs.length cap28)) rfl rfl Ty.agg30 rfl (her28.ext hE1) ?_
        exact dq hbi rfl
       ·intro σ β w1 hE1 hbi hk
        have hz1 := hE1.size
        refine ⟨[(91, .agg (tcells t27 (.slice a27 t27.subs.length cap27)).toArray), (96, .agg (tcells t28 (.slice a28 t28.subs.length cap28)).toArray)], (ak hk 10 (ak hk 15 (agree_nil _))), ?_⟩
        refine WL.call rfl rfl rfl Ty.ent22 (joins_ok _ _ _ 4 _ _ t27 t28 (hn27.ext hE1) (hn28.ext hE1) (by have h1 := Nd.size_le_sizeL (List.mem_of_getElem? ht27); omega) (by have h1 := Nd.size_le_sizeL (List.mem_of_getElem? ht28); omega)) ?_
        rintro _ w55 ⟨l53, rfl, hr53, hE54⟩
        have hzhE54 := hE54.size
        refine ⟨_, rfl, ?_⟩
        have hn53 := hr53.lt
        obtain ⟨a53, cap53, rfl, hts53, hlen53⟩ := hn53.op2
        exact dqE hbi hE54 ⟨_, rfl, (hr53.lt.dom (by intro k h1; refine ⟨(by replace h1 := h1.1; (try dsimp only at h1); (repeat' first | (guard_hyp h1 : _ ∨ _; refine Or.elim h1 (fun h1 => ?_) (fun h1 => ?_)) | (guard_hyp h1 : _ ∧ _; have hx := h1.2; replace h1 := h1.1)) <;> first | contradiction | omega), ?_, h1.2⟩; replace h1 := h1.1; intro x hxm; have hi := hbi.hi x hxm; have lo := hbi.lo x hxm; (try dsimp only at h1); (repeat' first | (guard_hyp h1 : _ ∨ _; refine Or.elim h1 (fun h1 => ?_) (fun h1 => ?_)) | (guard_hyp h1 : _ ∧ _; have hx := h1.2; replace h1 := h1.1)) <;> first | contradiction | omega | exact hx.1 x hxm))⟩
       ·intro σ β w1 hE1 hbi hk
        have hz1 := hE1.size
        obtain ⟨_, hv51, l51, rfl, hn51⟩ := kn hk 16 rfl rfl
        have hn51 := hn51.lt
        obtain ⟨a51, cap51, rfl, hts51, hlen51⟩ := hn51.op2
        refine ⟨[(97, .agg (tcells (Nd.joins 4 t27 t28) (.slice a51 (Nd.joins 4 t27 t28).subs.length cap51)).toArray)], (ag hv51 (agree_nil _)), ?_⟩
        refine WL.buildSlice (vs := [.agg (tcells (Nd.joins 4 t27 t28) (.slice a51 (Nd.joins 4 t27 t28).subs.length cap51)).toArray]) (cells := (tcells (Nd.joins 4 t27 t28) (.slice a51 (Nd.joins 4 t27 t28).subs.length cap51))) rfl rfl Ty.slice24 Ty.zero30 rfl rfl rfl rfl rfl rfl (fun b52 w57 hb53 hE56 hs54 hR55 => ?_)
        have hts52 := (NodesV.lit (n := 1) (ts := [(Nd.joins 4 t27 t28)]) hR55 (RowsL.cons (hn51.ext hE56) (RowsL.nil' _)) rfl rfl (by decide)).lt
        exact dqE hbi hE56 ⟨_, _, rfl, (hts52.dom (by intro k h1; refine ⟨(by replace h1 := h1.1; (try dsimp only at h1); (repeat' first | (guard_hyp h1 : _ ∨ _; refine Or.elim h1 (fun h1 => ?_) (fun h1 => ?_)) | (guard_hyp h1 : _ ∧ _; have hx := h1.2; replace h1 := h1.1)) <;> first | contradiction | omega), ?_, h1.2⟩; replace h1 := h1.1; intro x hxm; have hi := hbi.hi x hxm; have lo := hbi.lo x hxm; (try dsimp only at h1); (repeat' first | (guard_hyp h1 : _ ∨ _; refine Or.elim h1 (fun h1 => ?_) (fun h1 => ?_)) | (guard_hyp h1 : _ ∧ _; have hx := h1.2; replace h1 := h1.1)) <;> first | contradiction | omega | exact hx.1 x hxm))⟩
       ·intro σ β w1 hE1 hbi hk
        have hz1 := hE1.size
        obtain ⟨_, hv52, a52, cap52, rfl, hts52⟩ := kn hk 17 rfl rfl
        have hts52 := hts52.lt
        have hlen52 := hts52.len
        refine ⟨[(86, .slice (some ⟨eb27, 0, none⟩) (pile.length - 2) (pile.length - 2)), (98, .slice a52 (([(Nd.joins 4 t27 t28)]).length) cap52)], (ak hk 5 (ag hv52 (agree_nil _))), ?_⟩
        have h54 := (((hts.ext hE16).bu hB19).ext hE1)
        refine WL.appendFull rfl rfl Ty.slice24 Ty.zero30 rfl small_node rfl rfl ((h54).take (by omega) (Nat.le_refl _)) hts52 (by simp) (fun h => by rw [(hnn h).1]; rfl) (by simp; omega) ?_
        intro v53 w53 hO53 hE53
        have hz53 := hE53.size
        exact dqE hbi hE53 ((hO53.rebase (by omega)).dom (by intro k h1 _ _; (try dsimp only at h1); (repeat' first | (guard_hyp h1 : _ ∨ _; refine Or.elim h1 (fun h1 => ?_) (fun h1 => ?_)) | (guard_hyp h1 : _ ∧ _; have hx := h1.2; replace h1 := h1.1)) <;> first | contradiction | omega | (dsimp only; omega)))
       intro σ β w31 hE31 hbi31 hk
       have hz31 := hE31.size
       have hbi := hbi31
       obtain ⟨v32, hv32, hO32⟩ := hk 18 (by decide) _ _ rfl rfl
       refine WL.know [(99, v32)] (ag hv32 (agree_nil _)) ?_
       refine asg ?_
       refine WL.dn ?_
       refine WC.region ?_
       refine WL.add (v := (k : Int) + 1) rfl rfl rfl rfl (IntWalk.i64_in _ (by omega)) ?_
       refine mv ?_
       refine WL.nil (fun a_ ha => ?_)
       exact ⟨(k + 1, v32, ⟨(pile.take (pile.length - 2) ++ [(Nd.joins 4 t27 t28)]), u, gr⟩), _, ha.weaken (s4 (sr rfl (sr rfl (sr rfl (subReg_nil _))))), ⟨rfl, ((hB19.onto (hE7.trans hE16) (by omega)).trans hE31), ⟨by first | omega | (dsimp only; omega), by omega, (by rw [Nd.madeSt_succ hx11, ← hst]; simp only [Nd.stepM, hc10, hc21, hc22, hc23, hc24, hc25, Nd.mostM, Nd.empty, Nd.top2_at ht27, Nd.top_at ht28, Bool.or_true, Bool.true_or, Bool.or_false, Bool.false_or, cond_true, cond_false, Bool.true_and, Bool.false_and, Bool.and_true, Bool.and_false]), (h30.ext hE31), (hO32.dom (by intro k h1 _ _; (try dsimp only at h1); (repeat' first | (guard_hyp h1 : _ ∨ _; refine Or.elim h1 (fun h1 => ?_) (fun h1 => ?_)) | (guard_hyp h1 : _ ∧ _; have hx := h1.2; replace h1 := h1.1)) <;> first | contradiction | omega | (dsimp only; omega)))⟩⟩, by first | omega | (dsimp only; omega)⟩
    | true =>
     refine WL.lss rfl rfl rfl rfl hc23 ?_
     have hp23 := of_decide_eq_true hc23
     refine mv ?_
     refine mv ?_
     cases hc24 : decide ((1 : Int) < pile.length) with
     | false =>
      refine WL.gtr rfl rfl rfl rfl hc24 ?_
      have hp24 := of_decide_eq_false hc24
      refine pT ?_
      refine asg ?_
      refine WL.dn ?_
      refine cF ?_
      refine sq ?_
      refine mv ?_
      have hc25 : decide (((x11.1.tmod 12) : Int) < 9) = true := decide_eq_true (by omega)
      refine WL.lss rfl rfl rfl rfl hc25 ?_
      refine mv ?_
      refine mv ?_
      refine WL.gtr (b := false) rfl rfl rfl rfl hc24 ?_
      refine pT ?_
      refine asg ?_
      refine WL.dn ?_
      refine cF ?_
      refine sq ?_
      refine mv ?_
      have hc26 : (((x11.1.tmod 12) : Int) == 9) = false := beq_eq_false_iff_ne.2 (by omega)
      refine WL.eql rfl rfl rfl rfl hc26 ?_
      refine mv ?_
      refine ps ?_
      refine ps ?_
      refine pF ?_
      refine mv ?_
      refine ps ?_
      refine ps ?_
      refine pF ?_
      refine asg ?_
      refine WL.dn ?_
      refine cF ?_
      refine sq ?_
      refine mv ?_
      have hc27 : decide ((9 : Int) < (x11.1.tmod 12)) = false := decide_eq_false (by omega)
      refine WL.gtr rfl rfl rfl rfl hc27 ?_
      refine mv ?_
      refine ps ?_
      refine ps ?_
      refine pF ?_
      refine mv ?_
      refine ps ?_
      refine ps ?_
      refine ps ?_
      refine ps ?_
      refine ps ?_
      refine ps ?_
      refine ps ?_
      refine pF ?_
      refine asg ?_
      refine WL.dn ?_
      refine cF ?_
      refine WC.sk ?_
      refine WC.region ?_
      refine WL.add (v := (k : Int) + 1) rfl rfl rfl rfl (IntWalk.i64_in _ (by omega)) ?_
      refine mv ?_
      refine WL.nil (fun a_ ha => ?_)
      have h28 := ((hO.ext hE16).but hB19 (fun h1 => by first | omega | (dsimp only at h1; omega)) (fun hk => by have := (hO.ext hE16).own _ hk; have := hol _ hk; omega))
      have h29 := (hB19.row (hR2.ext hE16) (by omega))
      exact ⟨(k + 1, .slice ap pile.length capp, ⟨pile, u, gr⟩), _, ha.weaken (s4 (sr rfl (sr rfl (sr rfl (subReg_nil _))))), ⟨rfl, (hB19.onto (hE7.trans hE16) (by omega)), ⟨by first | omega | (dsimp only; omega), by omega, (by rw [Nd.madeSt_succ hx11, ← hst]; simp only [Nd.stepM, hc10, hc21, hc22, hc23, hc24, hc25, hc26, hc27, Nd.mostM, Nd.empty, Bool.or_true, Bool.true_or, Bool.or_false, Bool.false_or, cond_true, cond_false, Bool.true_and, Bool.false_and, Bool.and_true, Bool.and_false]), h29, (h28.dom (by intro k h1 _ _; (try dsimp only at h1); (repeat' first | (guard_hyp h1 : _ ∨ _; refine Or.elim h1 (fun h1 => ?_) (fun h1 => ?_)) | (guard_hyp h1 : _ ∧ _; have hx := h1.2; replace h1 := h1.1)) <;> first | contradiction | omega | (dsimp only; omega)))⟩⟩, by first | omega | (dsimp only; omega)⟩
     | true =>
      refine WL.gtr rfl rfl rfl rfl hc24 ?_
      have hp24 := of_decide_eq_true hc24
      refine pT ?_
      refine asg ?_
      refine WL.dn ?_
      refine cT ?_
      have h25 := ((hM.ext hE16).but hB19 (by rintro i hi ⟨h1, h2⟩; first | omega | (dsimp only at h1; omega) | ((try dsimp only at h1); (repeat' first | (guard_hyp h1 : _ ∨ _; refine Or.elim h1 (fun h1 => ?_) (fun h1 => ?_)) | (guard_hyp h1 : _ ∧ _; have hx := h1.2; replace h1 := h1.1)) <;> first | contradiction | omega)) (fun hk => by have := (hM.ext hE16).block _ hk; have := hol _ hk; omega))
      obtain ⟨t26, ht26⟩ : ∃ t, pile[(pile.length - 2)]? = some t := ⟨_, List.getElem?_eq_getElem (by omega)⟩
      obtain ⟨eb26, el26, hea26, hgb26, hgl26, her26, hn26⟩ := h25.at ht26
      obtain ⟨a26, cap26, rfl, hts26, hlen26⟩ := hn26.op2
      subst hea26
      obtain ⟨t27, ht27⟩ : ∃ t, pile[(pile.length - 1)]? = some t := ⟨_, List.getElem?_eq_getElem (by omega)⟩
      obtain ⟨eb27, el27, hea27, hgb27, hgl27, her27, hn27⟩ := h25.at ht27
      obtain ⟨a27, cap27, rfl, hts27, hlen27⟩ := hn27.op2
      cases hea27
      have h28 := ((hO.ext hE16).but hB19 (fun h1 => by first | omega | (dsimp only at h1; omega)) (fun hk => by have := (hO.ext hE16).own _ hk; have := hol _ hk; omega))
      have h29 := (hB19.row (hR2.ext hE16) (by omega))
      refine WC.weaken (r' := [(2, pt b1 0), (20, .slice (some ⟨eb11, eo11, none⟩) ((xs.take 25).length) cap), (21, .int .i64 ((xs.take 25).length)), (22, .int .i64 (k : Int)), (3, .slice (some ⟨eb26, 0, none⟩) pile.length capp), (4, .int .i64 u), (5, .int .i64 gr), (23, .bool true), (24, pt eb11 (eo11 + k * 3)), (25, .agg #[.int .u8 x11.1, .int .u8 x11.2.1, .int .u8 x11.2.2]), (7, pt b12 0), (26, .slice (some ⟨eb26, 0, none⟩) pile.length capp), (27, .int .i64 pile.length), (8, .int .i64 pile.length), (28, pt b12 0), (29, .int .u8 x11.1), (30, .int .u8 (x11.1.tmod 12)), (9, .int .u8 (x11.1.tmod 12)), (32, .int .u8 (x11.1.tmod 12)), (33, .bool false), (31, .bool false), (42, .int .u8 (x11.1.tmod 12)), (43, .bool false), (41, .bool false), (49, .int .u8 (x11.1.tmod 12)), (50, .bool true), (51, .bool true), (52, .int .i64 pile.length), (53, .bool true), (54, .bool true), (48, .bool true)]) (s4 (s4 (s4 (s4 (s4 (s4 (s4 (sr rfl (sr rfl (sr rfl (subReg_nil _))))))))))) ?_
      refine WC.draw 19 [55, 56, 57, 58, 59, 60, 61, 62, 63, 64, 65, 66, 67, 68, 69, 70, 71, 72, 73] [pc (.slice (some ⟨eb26, 0, none⟩) pile.length capp), pc (.int .i64 pile.length), pc (.int .i64 ((pile.length - 2 : Nat) : Int)), pc (.int .i64 pile.length), pc (.int .i64 ((pile.length - 2 : Nat) : Int)), pc (.slice (some ⟨eb26, 0, none⟩) (pile.length - 2) (pile.length - 2)), pc (.slice (some ⟨eb26, 0, none⟩) pile.length capp), pc (.int .i64 pile.length), pc (.int .i64 ((pile.length - 2 : Nat) : Int)), pc (pt eb26 (0 + (pile.length - 2) * 8)), pc (.agg (tcells t26 (.slice a26 t26.subs.length cap26)).toArray), pc (.slice (some ⟨eb26, 0, none⟩) pile.length capp), pc (.int .i64 pile.length), pc (.int .i64 ((pile.length - 1 : Nat) : Int)), pc (pt eb26 (0 + (pile.length - 1) * 8)), pc (.agg (tcells t27 (.slice a27 t27.subs.length cap27)).toArray), pnode (fun k => w6.heap.size ≤ k) (Nd.joins 3 t26 t27), pnodes (fun k => w6.heap.size ≤ k) ([(Nd.joins 3 t26 t27)]), pown 30 w6.heap.size (fun k => w6.heap.size ≤ k) (pile.take (pile.length - 2) ++ [(Nd.joins 3 t26 t27)])] (by kernel_rfl) (by kernel_rfl) (k4 (k4 (k4 (k4 ⟨KW_pnode _ _, KW_pnodes _ _, KW_pown _ _ _ _, trivial⟩)))) rfl rfl rfl (sc4 ?_ ?_ ?_ ?_ (sc4 ?_ ?_ ?_ ?_ (sc4 ?_ ?_ ?_ ?_ (sc4 ?_ ?_ ?_ ?_ (sc ?_ (sc ?_ (sc ?_ (StepsOn.nil _)))))))) ?_
      ·intro σ β w1 hE1 hbi hk
       refine ⟨[], (agree_nil _), ?_⟩
       refine mv ?_
       exact dq hbi rfl
      ·intro σ β w1 hE1 hbi hk
       refine ⟨[], (agree_nil _), ?_⟩
       refine mv ?_
       exact dq hbi rfl
      ·intro σ β w1 hE1 hbi hk
       have hz1 := hE1.size
       refine ⟨[(56, .int .i64 pile.length)], (ak hk 1 (agree_nil _)), ?_⟩
       refine WL.sub (v := ((pile.length - 2 : Nat) : Int)) rfl rfl rfl rfl (by rw [IntWalk.i64_in _ (by omega)]; omega) ?_
       exact dq hbi rfl
      ·intro σ β w1 hE1 hbi hk
       refine ⟨[], (agree_nil _), ?_⟩
       refine mv ?_
       exact dq hbi rfl
      ·intro σ β w1 hE1 hbi hk
       have hz1 := hE1.size
       refine ⟨[(58, .int .i64 pile.length)], (ak hk 3 (agree_nil _)), ?_⟩
       refine WL.sub (v := ((pile.length - 2 : Nat) : Int)) rfl rfl rfl rfl (by rw [IntWalk.i64_in _ (by omega)]; omega) ?_
       exact dq hbi rfl
      ·intro σ β w1 hE1 hbi hk
       have hz1 := hE1.size
       refine ⟨[(55, .slice (some ⟨eb26, 0, none⟩) pile.length capp), (57, .int .i64 ((pile.length - 2 : Nat) : Int)), (59, .int .i64 ((pile.length - 2 : Nat) : Int))], (ak hk 0 (ak hk 2 (ak hk 4 (agree_nil _)))), ?_⟩
       refine WL.slice_hm (m := pile.length - 2) rfl rfl Ty.slice24 rfl rfl rfl (by omega) (by omega) (by omega) ?_
       exact dq hbi rfl
      ·intro σ β w1 hE1 hbi hk
       refine ⟨[], (agree_nil _), ?_⟩
       refine mv ?_
       exact dq hbi rfl
      ·intro σ β w1 hE1 hbi hk
       refine ⟨[], (agree_nil _), ?_⟩
       refine mv ?_
       exact dq hbi rfl
      ·intro σ β w1 hE1 hbi hk
       have hz1 := hE1.size
       refine ⟨[(62, .int .i64 pile.length)], (ak hk 7 (agree_nil _)), ?_⟩
       refine WL.sub (v := ((pile.length - 2 : Nat) : Int)) rfl rfl rfl rfl (by rw [IntWalk.i64_in _ (by omega)]; omega) ?_
       exact dq hbi rfl
      ·intro σ β w1 hE1 hbi hk
       have hz1 := hE1.size
       refine ⟨[(61, .slice (some ⟨eb26, 0, none⟩) pile.length capp), (63, .int .i64 ((pile.length - 2 : Nat) : Int))], (ak hk 6 (ak hk 8 (agree_nil _))), ?_⟩
       refine WL.indexAddr (i := (pile.length - 2)) rfl rfl Ty.slice24 rfl rfl rfl (by omega) ?_
       exact dq hbi rfl
      ·intro σ β w1 hE1 hbi hk
       refine ⟨[(64, pt eb26 (0 + (pile.length - 2) * 8))], (ak hk 9 (agree_nil _)), ?_⟩
       refine WL.load_agg (l := tcells t26 (.slice a26 t26.subs.length cap26)) rfl rfl Ty.agg30 rfl (her26.ext hE1) ?_
       exact dq hbi rfl
      ·intro σ β w1 hE1 hbi hk
       refine ⟨[], (agree_nil _), ?_⟩
       refine mv ?_
       exact dq hbi rfl
      ·intro σ β w1 hE1 hbi hk
       refine ⟨[], (agree_nil _), ?_⟩
       refine mv ?_
       exact dq hbi rfl
      ·intro σ β w1 hE1 hbi hk
       have hz1 := hE1.size
       refine ⟨[(67, .int .i64 pile.length)], (ak hk 12 (agree_nil _)), ?_⟩
       refine WL.sub (v := ((pile.length - 1 : Nat) : Int)) rfl rfl rfl rfl (by rw [IntWalk.i64_in _ (by omega)]; omega) ?_
       exact dq hbi rfl
      ·intro σ β w1 hE1 hbi hk
       have hz1 := hE1.size
       refine ⟨[(66, .slice (some ⟨eb26, 0, none⟩) pile.length capp), (68, .int .i64 ((pile.length - 1 : Nat) : Int))], (ak hk 11 (ak hk 13 (agree_nil _))), ?_⟩
       refine WL.indexAddr (i := (pile.length - 1)) rfl rfl Ty.slice24 rfl rfl rfl (by omega) ?_
       exact dq hbi rfl
      ·intro σ β w1 hE1 hbi hk
       refine ⟨[(69, pt eb26 (0 + (pile.length - 1) * 8))], (ak hk 14 (agree_nil _)), ?_⟩
       refine WL.load_agg (l := tcells t27 (.slice a27 t27.subs.length cap27)) rfl rfl Ty.agg30 rfl (her27.ext hE1) ?_
       exact dq hbi rfl
      ·intro σ β w1 hE1 hbi hk
       have hz1 := hE1.size
       refine ⟨[(65, .agg (tcells t26 (.slice a26 t26.subs.length cap26)).toArray), (70, .agg (tcells t27 (.slice a27 t27.subs.length cap27)).toArray)], (ak hk 10 (ak hk 15 (agree_nil _))), ?_⟩
       refine WL.call rfl rfl rfl Ty.ent22 (joins_ok _ _ _ 3 _ _ t26 t27 (hn26.ext hE1) (hn27.ext hE1) (by have h1 := Nd.size_le_sizeL (List.mem_of_getElem? ht26); omega) (by have h1 := Nd.size_le_sizeL (List.mem_of_getElem? ht27); omega)) ?_
       rintro _ w54 ⟨l52, rfl, hr52, hE53⟩
       have hzhE53 := hE53.size
       refine ⟨_, rfl, ?_⟩
       have hn52 := hr52.lt
       obtain ⟨a52, cap52, rfl, hts52, hlen52⟩ := hn52.op2
       exact dqE hbi hE53 ⟨_, rfl, (hr52.lt.dom (by intro k h1; refine ⟨(by replace h1 := h1.1; (try dsimp only at h1); (repeat' first | (guard_hyp h1 : _ ∨ _; refine Or.elim h1 (fun h1 => ?_) (fun h1 => ?_)) | (guard_hyp h1 : _ ∧ _; have hx := h1.2; replace h1 := h1.1)) <;> first | contradiction | omega), ?_, h1.2⟩; replace h1 := h1.1; intro x hxm; have hi := hbi.hi x hxm; have lo := hbi.lo x hxm; (try dsimp only at h1); (repeat' first | (guard_hyp h1 : _ ∨ _; refine Or.elim h1 (fun h1 => ?_) (fun h1 => ?_)) | (guard_hyp h1 : _ ∧ _; have hx := h1.2; replace h1 := h1.1)) <;> first | contradiction | omega | exact hx.1 x hxm))⟩
      ·intro σ β w1 hE1 hbi hk
       have hz1 := hE1.size
       obtain ⟨_, hv50, l50, rfl, hn50⟩ := kn hk 16 rfl rfl
       have hn50 := hn50.lt
       obtain ⟨a50, cap50, rfl, hts50, hlen50⟩ := hn50.op2
       refine ⟨[(71, .agg (tcells (Nd.joins 3 t26 t27) (.slice a50 (Nd.joins 3 t26 t27).subs.length cap50)).toArray)], (ag hv50 (agree_nil _)), ?_⟩
       refine WL.buildSlice (vs := [.agg (tcells (Nd.joins 3 t26 t27) (.slice a50 (Nd.joins 3 t26 t27).subs.length cap50)).toArray]) (cells := (tcells (Nd.joins 3 t26 t27) (.slice a50 (Nd.joins 3 t26 t27).subs.length cap50))) rfl rfl Ty.slice24 Ty.zero30 rfl rfl rfl rfl rfl rfl (fun b51 w56 hb52 hE55 hs53 hR54 => ?_)
       have hts51 := (NodesV.lit (n := 1) (ts := [(Nd.joins 3 t26 t27)]) hR54 (RowsL.cons (hn50.ext hE55) (RowsL.nil' _)) rfl rfl (by decide)).lt
       exact dqE hbi hE55 ⟨_, _, rfl, (hts51.dom (by intro k h1; refine ⟨(by replace h1 := h1.1; (try dsimp only at h1); (repeat' first | (guard_hyp h1 : _ ∨ _; refine Or.elim h1 (fun h1 => ?_) (fun h1 => ?_)) | (guard_hyp h1 : _ ∧ _; have hx := h1.2; replace h1 := h1.1)) <;> first | contradiction | omega), ?_, h1.2⟩; replace h1 := h1.1; intro x hxm; have hi := hbi.hi x hxm; have lo := hbi.lo x hxm; (try dsimp only at h1); (repeat' first | (guard_hyp h1 : _ ∨ _; refine Or.elim h1 (fun h1 => ?_) (fun h1 => ?_)) | (guard_hyp h1 : _ ∧ _; have hx := h1.2; replace h1 := h1.1)) <;> first | contradiction | omega | exact hx.1 x hxm))⟩
      ·intro σ β w1 hE1 hbi hk
       have hz1 := hE1.size
       obtain ⟨_, hv51, a51, cap51, rfl, hts51⟩ := kn hk 17 rfl rfl
       have hts51 := hts51.lt
       have hlen51 := hts51.len
       refine ⟨[(60, .slice (some ⟨eb26, 0, none⟩) (pile.length - 2) (pile.length - 2)), (72, .slice a51 (([(Nd.joins 3 t26 t27)]).length) cap51)], (ak hk 5 (ag hv51 (agree_nil _))), ?_⟩
       have h53 := (((hts.ext hE16).bu hB19).ext hE1)
       refine WL.appendFull rfl rfl Ty.slice24 Ty.zero30 rfl small_node rfl rfl ((h53).take (by omega) (Nat.le_refl _)) hts51 (by simp) (fun h => by rw [(hnn h).1]; rfl) (by simp; omega) ?_
       intro v52 w52 hO52 hE52
       have hz52 := hE52.size
       exact dqE hbi hE52 ((hO52.rebase (by omega)).dom (by intro k h1 _ _; (try dsimp only at h1); (repeat' first | (guard_hyp h1 : _ ∨ _; refine Or.elim h1 (fun h1 => ?_) (fun h1 => ?_)) | (guard_hyp h1 : _ ∧ _; have hx := h1.2; replace h1 := h1.1)) <;> first | contradiction | omega | (dsimp only; omega)))
      intro σ β w30 hE30 hbi30 hk
      have hz30 := hE30.size
      have hbi := hbi30
      obtain ⟨v31, hv31, hO31⟩ := hk 18 (by decide) _ _ rfl rfl
      refine WL.know [(73, v31)] (ag hv31 (agree_nil _)) ?_
      refine asg ?_
      refine WL.dn ?_
      refine WC.region ?_
      refine WL.add (v := (k : Int) + 1) rfl rfl rfl rfl (IntWalk.i64_in _ (by omega)) ?_
      refine mv ?_
      refine WL.nil (fun a_ ha => ?_)
      exact ⟨(k + 1, v31, ⟨(pile.take (pile.length - 2) ++ [(Nd.joins 3 t26 t27)]), u, gr⟩), _, ha.weaken (s4 (sr rfl (sr rfl (sr rfl (subReg_nil _))))), ⟨rfl, ((hB19.onto (hE7.trans hE16) (by omega)).trans hE30), ⟨by first | omega | (dsimp only; omega), by omega, (by rw [Nd.madeSt_succ hx11, ← hst]; simp only [Nd.stepM, hc10, hc21, hc22, hc23, hc24, Nd.mostM, Nd.empty, Nd.top2_at ht26, Nd.top_at ht27, Bool.or_true, Bool.true_or, Bool.or_false, Bool.false_or, cond_true, cond_false, Bool.true_and, Bool.false_and, Bool.and_true, Bool.and_false]), (h29.ext hE30), (hO31.dom (by intro k h1 _ _; (try dsimp only at h1); (repeat' first | (guard_hyp h1 : _ ∨ _; refine Or.elim h1 (fun h1 => ?_) (fun h1 => ?_)) | (guard_hyp h1 : _ ∧ _; have hx := h1.2; replace h1 := h1.1)) <;> first | contradiction | omega | (dsimp only; omega)))⟩⟩, by first | omega | (dsimp only; omega)⟩
   | true =>
    refine WL.eql rfl rfl rfl rfl hc22 ?_
    have hp22 := beq_iff_eq.1 hc22
    refine asg ?_
    refine WL.dn ?_
    refine cT ?_
    refine WC.region ?_
    refine mv ?_
    refine WL.build (l := (zc 1 0 0 (.slice none 0 0))) rfl rfl Ty.zero30 Ty.st30 ⟨⟨rfl, rfl⟩, (by kernel_rfl)⟩ ?_
    have hn23 : NodeL _ w20 (zc 1 0 0 (.slice none 0 0)) (Nd.mk 1 Nd.zero 0 0 ([])) := NodeL.shut (k := 1) (s := Nd.zero) (mn := 0) (mx := 0) (sl := .slice none 0 0) (ts := []) (NodesV.nil (fun _ => False) _ none 0)
    have hn23 := hn23.lt
    refine WL.buildSlice (vs := [.agg (zc 1 0 0 (.slice none 0 0)).toArray]) (cells := (zc 1 0 0 (.slice none 0 0))) rfl rfl Ty.slice24 Ty.zero30 rfl rfl rfl rfl rfl rfl (fun b24 w29 hb25 hE28 hs26 hR27 => ?_)
    have hts24 := (NodesV.lit (n := 1) (ts := [(Nd.mk 1 Nd.zero 0 0 ([]))]) hR27 (RowsL.cons (hn23.ext hE28) (RowsL.nil' _)) rfl rfl (by decide)).lt
    have h30 := (((hO.ext hE16).but hB19 (fun h1 => by first | omega | (dsimp only at h1; omega)) (fun hk => by have := (hO.ext hE16).own _ hk; have := hol _ hk; omega)).ext hE28)
    have hol31 := h30.own
    refine WL.append1 rfl rfl Ty.slice24 Ty.zero30 rfl small_node rfl rfl h30 hR27 (hn23.ext hE28) (by intro k h1 hh; have := hol31 _ hh; have := hol _ hh; first | omega | ((try dsimp only at h1); (repeat' first | (guard_hyp h1 : _ ∨ _; refine Or.elim h1 (fun h1 => ?_) (fun h1 => ?_)) | (guard_hyp h1 : _ ∧ _; have hx := h1.2; replace h1 := h1.1)) <;> first | contradiction | omega)) (by omega) (by omega) ?_
    intro v31 w31 hG31 hO31 hv31
    have hE31 := grown_below hG31 ((hB19.onto (hE7.trans hE16) (by omega)).trans hE28) (by intro k hk; have := hol31 _ hk; omega)
    have hz31 := hE31.size
    have hzz31 := hG31.size
    refine asg ?_
    refine WL.dn ?_
    refine WC.region ?_
    refine WL.add (v := (k : Int) + 1) rfl rfl rfl rfl (IntWalk.i64_in _ (by omega)) ?_
    refine mv ?_
    refine WL.nil (fun a_ ha => ?_)
    have h32 := (grown_row hG31 ((hB19.row (hR2.ext hE16) (by omega)).ext hE28) (fun hh => by have := hol31 _ hh; have := hol _ hh; omega))
    exact ⟨(k + 1, v31, ⟨pile ++ [(Nd.mk 1 Nd.zero 0 0 ([]))], u, gr⟩), _, ha.weaken (s4 (sr rfl (sr rfl (sr rfl (subReg_nil _))))), ⟨rfl, hE31, ⟨by first | omega | (dsimp only; omega), by omega, (by rw [Nd.madeSt_succ hx11, ← hst]; simp only [Nd.stepM, hc10, hc21, hc22, Nd.mostM, Nd.empty, Bool.or_true, Bool.true_or, Bool.or_false, Bool.false_or, cond_true, cond_false, Bool.true_and, Bool.false_and, Bool.and_true, Bool.and_false]), h32, (hO31.dom (by intro k h1 _ _; (try dsimp only at h1); (repeat' first | (guard_hyp h1 : _ ∨ _; refine Or.elim h1 (fun h1 => ?_) (fun h1 => ?_)) | (guard_hyp h1 : _ ∧ _; have hx := h1.2; replace h1 := h1.1)) <;> first | contradiction | omega | (dsimp only; omega)))⟩⟩, by first | omega | (dsimp only; omega)⟩
  | true =>
   refine WL.lss rfl rfl rfl rfl hc21 ?_
   have hp21 := of_decide_eq_true hc21
   refine asg ?_
   refine WL.dn ?_
   refine cT ?_
   refine WC.region ?_
   refine mv ?_
   refine WL.fieldAddr rfl rfl Ty.fld49_1 rfl ?_
   refine WL.load_fld rfl rfl Ty.flat5 rfl hR18 rfl ?_
   refine WL.call rfl rfl rfl Ty.ent21 (letters_ok _ x11.2.1 (by omega)) ?_
   rintro _ w23 ⟨rfl, hE22⟩
   have hzhE22 := hE22.size
   refine ⟨_, rfl, ?_⟩
   refine WL.call rfl rfl rfl Ty.ent20 (class_ok _ (Nd.lettersS x11.2.1) (by first | decide | exact Nd.lettersS_len _)) ?_
   rintro _ w26 ⟨l24, rfl, hr24, hE25⟩
   have hzhE25 := hE25.size
   refine ⟨_, rfl, ?_⟩
   have hn24 := hr24.lt
   obtain ⟨a24, cap24, rfl, hts24, hlen24⟩ := hn24.op2
   refine WL.buildSlice (vs := [.agg (tcells (Nd.classS (Nd.lettersS x11.2.1)) (.slice a24 (Nd.classS (Nd.lettersS x11.2.1)).subs.length cap24)).toArray]) (cells := (tcells (Nd.classS (Nd.lettersS x11.2.1)) (.slice a24 (Nd.classS (Nd.lettersS x11.2.1)).subs.length cap24))) rfl rfl Ty.slice24 Ty.zero30 rfl rfl rfl rfl rfl rfl (fun b27 w32 hb28 hE31 hs29 hR30 => ?_)
   have hts27 := (NodesV.lit (n := 1) (ts := [(Nd.classS (Nd.lettersS x11.2.1))]) hR30 (RowsL.cons (hn24.ext hE31) (RowsL.nil' _)) rfl rfl (by decide)).lt
   have h33 := (((((hO.ext hE16).but hB19 (fun h1 => by first | omega | (dsimp only at h1; omega)) (fun hk => by have := (hO.ext hE16).own _ hk; have := hol _ hk; omega)).ext hE22).ext hE25).ext hE31)
   have hol34 := h33.own
   refine WL.append1 rfl rfl Ty.slice24 Ty.zero30 rfl small_node rfl rfl h33 hR30 (hn24.ext hE31) (by intro k h1 hh; have := hol34 _ hh; have := hol _ hh; first | omega | ((try dsimp only at h1); (repeat' first | (guard_hyp h1 : _ ∨ _; refine Or.elim h1 (fun h1 => ?_) (fun h1 => ?_)) | (guard_hyp h1 : _ ∧ _; have hx := h1.2; replace h1 := h1.1)) <;> first | contradiction | omega)) (by omega) (by omega) ?_
   intro v34 w34 hG34 hO34 hv34
   have hE34 := grown_below hG34 ((((hB19.onto (hE7.trans hE16) (by omega)).trans hE22).trans hE25).trans hE31) (by intro k hk; have := hol34 _ hk; omega)
   have hz34 := hE34.size
   have hzz34 := hG34.size
   refine asg ?_
   refine WL.dn ?_
   refine WC.region ?_
   refine WL.add (v := (k : Int) + 1) rfl rfl rfl rfl (IntWalk.i64_in _ (by omega)) ?_
   refine mv ?_
   refine WL.nil (fun a_ ha => ?_)
   have h35 := (grown_row hG34 ((((hB19.row (hR2.ext hE16) (by omega)).ext hE22).ext hE25).ext hE31) (fun hh => by have := hol34 _ hh; have := hol _ hh; omega))
   exact ⟨(k + 1, v34, ⟨pile ++ [(Nd.classS (Nd.lettersS x11.2.1))], u, gr⟩), _, ha.weaken (s4 (sr rfl (sr rfl (sr rfl (subReg_nil _))))), ⟨rfl, hE34, ⟨by first | omega | (dsimp only; omega), by omega, (by rw [Nd.madeSt_succ hx11, ← hst]; simp only [Nd.stepM, hc10, hc21, Nd.mostM, Nd.empty, Bool.or_true, Bool.true_or, Bool.or_false, Bool.false_or, cond_true, cond_false, Bool.true_and, Bool.false_and, Bool.and_true, Bool.and_false]), h35, (hO34.dom (by intro k h1 _ _; (try dsimp only at h1); (repeat' first | (guard_hyp h1 : _ ∨ _; refine Or.elim h1 (fun h1 => ?_) (fun h1 => ?_)) | (guard_hyp h1 : _ ∧ _; have hx := h1.2; replace h1 := h1.1)) <;> first | contradiction | omega | (dsimp only; omega)))⟩⟩, by first | omega | (dsimp only; omega)⟩
end Go.Proofs.Yteenegaadlhjdaa
namespace Go.Proofs.Yteenegaadlhjdaa
open Go.RowKit Go.Lib
section
variable {P : Program}
theorem run_append_no {w : World} {t ty e : TypeId} {b c2 : Nat} {a2 : Option Addr} (ht : sliceB P t e 8 = true) :
    (Builtin.append_ #[t, t] ty #[.slice (some ⟨b, 0, none⟩) 0 0, .slice a2 0 c2]).run P w = .ok (.slice (some ⟨b, 0, none⟩) 0 0) w := by
  obtain ⟨hu, q, hq, hs⟩ := sliceB_u ht
  cases a2 with
  | none => simp [Builtin.append_, run_underlying hu, sizeOf, typeInfo, hq, Builtin.lenOf, Builtin.firstCells, storeCells]
  | some ad =>
    have hl := run_loadCells_list (P := P) (w := w) ad [] (fun j v h => by simp at h)
    simp only [List.length_nil] at hl
    simp [Builtin.append_, run_underlying hu, sizeOf, typeInfo, hq, Builtin.lenOf, Builtin.firstCells, storeCells, hl]
variable {ro : Option Nat} {all : Array Oper} {Q : Exit → Act → World → Prop} {N : Nat} {ds : List Deferred} {r : Reg} {w : World} {rest : List Oper}
  {ty : TypeId} {pos : String} {aft : Array Edge} {g : Option (Nat × Bool)}
theorem WL.appendE {d : Nat} {t e : TypeId} {base : Nat} {D2 : Nat → Prop} {x y : Operand} {z : Value} {us : List Nd} {b : Nat} {a2 : Option Addr} {n2 c2 : Nat} (hw : want all r g = some true) (hd : Nat.blt d N = true) (ht : sliceB P t e 8 = true) (hz : zeroB P e z) (hzs : z.cells.size = 8) (hby : smallB P e = true)
    (hx : ev r x = some (.slice (some ⟨b, 0, none⟩) 0 0)) (hy : ev r y = some (.slice a2 n2 c2)) (hb : base ≤ b) (hrow : w.heap[b]? = some (.cells #[] e (0, 0))) (hus : NodesV D2 w (.slice a2 n2 c2) us) (hlen : us.length ≤ 1000000000) (hbase : base ≤ w.heap.size)
    (next : ∀ v' w', OwnV e base D2 w' v' us → Ext w w' → WL ro P all Q N ds rest ((d, v') :: r) w') :
    WL ro P all Q N ds (⟨some d, .call ⟨.builtin .append, #[x, y], #[t, t]⟩, ty, pos, aft, g⟩ :: rest) r w := by
  cases us with
  | nil =>
    have hn : n2 = 0 := hus.len.1
    subst hn
    exact WL.val hw hd (by intro c h; cases h) (fun ac ha => by simp [execOp, resolve, invoke, builtin, ha.ev hx, ha.ev hy, run_append_no (ty := ty) ht]) (next _ w (OwnV.empty hb hrow) (Ext.refl _))
  | cons u us =>
    obtain ⟨v', w', h1, h2, h3⟩ := run_append_full (P := P) (ty := ty) (ts := []) ht hz hzs hby (NodesV.nil (fun _ => False) w (some ⟨b, 0, none⟩) 0) hus (by simp) (by simp) (by simpa using hlen)
    exact WL.val hw hd (by intro c h; cases h) (fun ac ha => by simp [execOp, resolve, invoke, builtin, ha.ev hx, ha.ev hy, h1]) (next v' w' ((h2.rebase hbase).dom (fun k h _ _ => h.elim False.elim id)) h3)
end
def pemp (e base : Nat) : Post := fun v w _ => ∃ b, v = .slice (some ⟨b, 0, none⟩) 0 0 ∧ base ≤ b ∧ w.heap[b]? = some (.cells #[] e (0, 0))
theorem KW_pemp (e base : Nat) : KW (pemp e base) := fun _ _ _ _ _ E _ ⟨b, h1, h2, h3⟩ => ⟨b, h1, h2, (E.block b (Array.getElem?_eq_some_iff.1 h3).1).trans h3⟩
theorem NLists.lit2 {D : Nat → Prop} {w : World} {b : Nat} {t : TypeId} {a1 a2 : Option Addr} {c1 c2 n1 n2 : Nat} {t1 t2 : List Nd} (hR : Row w b [.slice a1 n1 c1, .slice a2 n2 c2] t)
    (h1 : NodesV D w (.slice a1 n1 c1) t1) (h2 : NodesV D w (.slice a2 n2 c2) t2) (hb : D b) : NLists D w (.slice (some ⟨b, 0, none⟩) 2 2) [t1, t2] := by
  refine ⟨_, 2, rfl, by simp, .inr ⟨b, 0, rfl, hb, fun i ts hi => ?_⟩⟩
  have e1 := h1.len.1
  have e2 := h2.len.1
  match i, hi with
  | 0, hi => simp at hi; subst hi; subst e1; exact ⟨a1, c1, hR.cell 0, h1⟩
  | 1, hi => simp at hi; subst hi; subst e2; exact ⟨a2, c2, hR.cell 1, h2⟩
  | i + 2, hi => simp at hi
end Go.Proofs.Yteenegaadlhjdaa
namespace Go.Proofs.Yteenegaadlhjdaa
open Go.Proofs Go.RowKit
abbrev qe1 : Nd := (Nd.classS ([97]))
abbrev qe2 : Nd := (Nd.classS ([98]))
abbrev qe3 : Nd := (Nd.classS [97, 98])
abbrev qe4 : Nd := (Nd.classS ([97, 98]))
theorem Norm_okN {D : Nat → Prop} {w : World} {l : List Value} {T : Nd} (hT : NodeL D w l T) (hc : T.clean = false) (hs : T.sok = true) : Calls Try.prog 9 #[.agg l.toArray] w fun e w' => ∃ l', e = .returned (.tuple #[.agg l'.toArray, .int .i64 110]) ∧ NodeL (fun k => w.heap.size ≤ k) w' l' Nd.none ∧ Ext w w' := by
 have h := Norm_ok Nd.normOk D w l T hT (fun hh => by rw [hc] at hh; cases hh) hs
 rw [hc] at h
 exact h
set_option maxRecDepth 20000 in
set_option maxHeartbeats 4000000 in
theorem RxnormOrder_ok (w : World) (Dxs : Nat → Prop) (axs : Option Addr) (capxs : Nat) (xs : List (Int × Int × Int)) (hxxs : SmallV Dxs w (.slice axs xs.length capxs) xs) (Dys : Nat → Prop) (ays : Option Addr) (capys : Nat) (ys : List (Int × Int × Int)) (hxys : SmallV Dys w (.slice ays ys.length capys) ys) (Dzs : Nat → Prop) (azs : Option Addr) (capzs : Nat) (zs : List (Int × Int × Int)) (hxzs : SmallV Dzs w (.slice azs zs.length capzs) zs) :
  Calls Try.prog 3 #[.slice axs xs.length capxs, .slice ays ys.length capys, .slice azs zs.length capzs] w fun e w' => e = .returned (.bool true) ∧ Ext w w' := by
 have hBxs : Nd.Bytes xs := fun q hq => by have := hxxs.2 q hq; omega
 obtain ⟨A, hA⟩ : ∃ T, T = Nd.made xs := ⟨_, rfl⟩
 have hmA : Nd.MadeOk A := hA ▸ Nd.made_ok' hBxs
 have hsA : Nd.Sm A := ⟨⟨hmA.nice, hA ▸ Nd.made_sok xs⟩, hmA.size⟩
 have hBys : Nd.Bytes ys := fun q hq => by have := hxys.2 q hq; omega
 obtain ⟨B, hB⟩ : ∃ T, T = Nd.made ys := ⟨_, rfl⟩
 have hmB : Nd.MadeOk B := hB ▸ Nd.made_ok' hBys
 have hsB : Nd.Sm B := ⟨⟨hmB.nice, hB ▸ Nd.made_sok ys⟩, hmB.size⟩
 have hBzs : Nd.Bytes zs := fun q hq => by have := hxzs.2 q hq; omega
 obtain ⟨C, hC⟩ : ∃ T, T = Nd.made zs := ⟨_, rfl⟩
 have hmC : Nd.MadeOk C := hC ▸ Nd.made_ok' hBzs
 have hsC : Nd.Sm C := ⟨⟨hmC.nice, hC ▸ Nd.made_sok zs⟩, hmC.size⟩
 have hall : ∀ x ∈ [xs, ys, zs], Nd.Sm (Nd.made x) := by intro x hx; simp only [List.mem_cons, List.not_mem_nil, or_false] at hx; rcases hx with rfl | rfl | rfl; exact hA ▸ hsA; exact hB ▸ hsB; exact hC ▸ hsC
 refine Calls.enter (args := [.slice axs xs.length capxs, .slice ays ys.length capys, .slice azs zs.length capzs]) Try.func3 rfl rfl rfl rfl ?_
 refine sq ?_
 refine asg ?_
 refine WL.dn ?_
 refine WC.seqk ?_
 refine sq ?_
 refine WL.call rfl rfl rfl Ty.ent6 (awake11_ok _) ?_
 rintro _ w3 ⟨rfl, hE2⟩
 have hzhE2 := hE2.size
 refine ⟨_, rfl, ?_⟩
 refine WL.not rfl rfl rfl ?_
 refine WL.dn ?_
 refine cF ?_
 refine WC.sk ?_
 refine sq ?_
 refine asg ?_
 refine WL.dn ?_
 refine WC.seqk ?_
 refine sq ?_
 refine mv ?_
 refine mv ?_
 refine mv ?_
 refine WL.buildSlice (vs := [.slice axs xs.length capxs, .slice ays ys.length capys, .slice azs zs.length capzs]) (cells := [.slice axs xs.length capxs, .slice ays ys.length capys, .slice azs zs.length capzs]) rfl rfl Ty.slice25 Ty.zero22 rfl rfl rfl rfl rfl rfl (fun b4 w9 hb5 hE8 hs6 hR7 => ?_)
 refine WL.len rfl rfl Try.underlying25 rfl ?_
 refine mv ?_
 refine WL.dn ?_
 refine WC.block ?_
 refine WC.weaken (r' := [(6, .bool false), (25, .slice (some ⟨b4, 0, none⟩) 3 3), (26, .int .i64 3), (27, .int .i64 0), (7, .slice none 0 0)]) (s4 (sr rfl (subReg_nil _))) ?_
 refine WC.loop (σ := Nat × Value) (fun s r_ w_ => r_ = [(6, .bool false), (25, .slice (some ⟨b4, 0, none⟩) 3 3), (26, .int .i64 3), (27, .int .i64 (s.1 : Int)), (7, s.2)] ∧ Ext w9 w_ ∧ (s.1 ≤ 3 ∧ OwnV 30 w9.heap.size (fun k => w9.heap.size ≤ k) w_ s.2 (Nd.pl3 xs ys zs s.1))) (fun s => 3 - s.1) (0, .slice none 0 0) ⟨rfl, (Ext.refl _), ⟨Nat.zero_le _, OwnV.nil _ _ _ _⟩⟩ ?_
 rintro ⟨k, v⟩ r_ w12 ⟨rfl, hE10, hI11⟩
 have hzhE10 := hE10.size
 dsimp only at hI11
 obtain ⟨hk, hO⟩ := hI11
 have hO := hO.dom (D' := fun k => w9.heap.size ≤ k ∧ k < w12.heap.size) (fun k h1 h2 _ => ⟨h1, h2⟩)
 obtain ⟨ap, capp, rfl, hnn, hxx⟩ := hO.cases
 have hol := hO.own
 have hpl := Nd.pl3_len xs ys zs k
 refine WC.weaken (r' := [(6, .bool false), (25, .slice (some ⟨b4, 0, none⟩) 3 3), (26, .int .i64 3), (27, .int .i64 (k : Int)), (7, .slice ap ((Nd.pl3 xs ys zs k).length) capp)]) (s4 (sr rfl (subReg_nil _))) ?_
 refine sq ?_
 cases hc13 : decide (((k : Int) : Int) < 3) with
 | false =>
  refine WL.lss rfl rfl rfl rfl hc13 ?_
  have hp13 := of_decide_eq_false hc13
  refine WL.dn ?_
  refine WC.seqk ?_
  refine cF ?_
  refine WC.exit (fun a_ ha => ?_)
  refine exit_then ?_
  refine exit_then ?_
  refine exit_here ?_
  refine WC.at ?_ ha
  refine WC.seqk ?_
  have hk3 : k = 3 := by omega
  have hTr := Nd.pl3_trees k hall
  have hNL := hO.nodes.lt
  rcases Nat.eq_zero_or_pos (Nd.pl3 xs ys zs k).length with h0 | h0
  ·skip
   refine WC.region ?_
   refine mv ?_
   refine WL.call rfl rfl rfl Ty.ent10 (or_ok _ _ _ _ (Nd.pl3 xs ys zs k) hNL (by have := hTr.len; omega)) ?_
   rintro _ w16 ⟨l14, rfl, hr14, hE15⟩
   have hzhE15 := hE15.size
   refine ⟨_, rfl, ?_⟩
   have hn14 := hr14.lt
   obtain ⟨a14, cap14, rfl, hts14, hlen14⟩ := hn14.op2
   refine WL.call rfl rfl rfl Ty.ent9 (Norm_okN hn14 (by rw [Nd.or_empty h0]; rfl) (by rw [Nd.or_empty h0]; rfl)) ?_
   rintro _ w19 ⟨l17, rfl, hr17, hE18⟩
   have hzhE18 := hE18.size
   refine ⟨_, rfl, ?_⟩
   have hn17 := hr17.lt
   obtain ⟨a17, cap17, rfl, hts17, hlen17⟩ := hn17.op2
   refine mv ?_
   refine WL.extract rfl rfl rfl rfl ?_
   refine WL.extract rfl rfl rfl rfl ?_
   refine WL.alloc rfl rfl Ty.zero30 rfl (fun b20 w25 hb21 hE24 hs22 hR23 => ?_)
   refine WL.store_box rfl rfl rfl hR23 Ty.agg30 rfl rfl (fun w28 hB27 hR26 => ?_)
   have hzhB27 := hB27.size
   refine asg ?_
   refine WL.dn ?_
   refine WC.seqk ?_
   refine sq ?_
   refine mv ?_
   refine WL.len rfl rfl Try.underlying24 rfl ?_
   refine WL.eql (b := true) rfl rfl rfl rfl (by rw [h0]; rfl) ?_
   refine WL.dn ?_
   refine cT ?_
   refine sq ?_
   refine mv ?_
   refine WL.eql rfl rfl rfl rfl rfl ?_
   refine asg ?_
   refine WL.dn ?_
   refine WC.ret (fun a_ ha => ?_)
   refine ret_then ?_
   exact bodyPost_tmp rfl ha rfl ⟨rfl, (hB27.onto (((((hE2.trans hE8).trans hE10).trans hE15).trans hE18).trans hE24) (by omega))⟩
  ·skip
   refine WC.region ?_
   refine mv ?_
   refine WL.call rfl rfl rfl Ty.ent10 (or_ok _ _ _ _ (Nd.pl3 xs ys zs k) hNL (by have := hTr.len; omega)) ?_
   rintro _ w16 ⟨l14, rfl, hr14, hE15⟩
   have hzhE15 := hE15.size
   refine ⟨_, rfl, ?_⟩
   have hn14 := hr14.lt
   obtain ⟨a14, cap14, rfl, hts14, hlen14⟩ := hn14.op2
   refine WL.call rfl rfl rfl Ty.ent9 (Norm_okC hn14 (Nd.or_fine (hTr.self h0)).1.clean (Nd.or_fine (hTr.self h0)).1 (Nd.or_fine (hTr.self h0)).2) ?_
   rintro _ w19 ⟨l17, rfl, hr17, hE18⟩
   have hzhE18 := hE18.size
   refine ⟨_, rfl, ?_⟩
   have hn17 := hr17.lt
   obtain ⟨a17, cap17, rfl, hts17, hlen17⟩ := hn17.op2
   refine mv ?_
   refine WL.extract rfl rfl rfl rfl ?_
   refine WL.extract rfl rfl rfl rfl ?_
   refine WL.alloc rfl rfl Ty.zero30 rfl (fun b20 w25 hb21 hE24 hs22 hR23 => ?_)
   refine WL.store_box rfl rfl rfl hR23 Ty.agg30 rfl rfl (fun w28 hB27 hR26 => ?_)
   have hzhB27 := hB27.size
   refine asg ?_
   refine WL.dn ?_
   refine WC.seqk ?_
   refine sq ?_
   refine mv ?_
   refine WL.len rfl rfl Try.underlying24 rfl ?_
   refine WL.eql (b := false) rfl rfl rfl rfl (beq_eq_false_iff_ne.2 (by omega)) ?_
   refine WL.dn ?_
   refine cF ?_
   refine WC.sk ?_
   refine WC.seqk ?_
   refine sq ?_
   refine mv ?_
   refine WL.neq rfl rfl rfl rfl rfl ?_
   refine WL.dn ?_
   refine cF ?_
   refine WC.sk ?_
   refine WC.seqk ?_
   have h29 := ((((hNL.ext hE15).ext hE18).ext hE24).bu hB27)
   obtain ⟨t30, ht30⟩ : ∃ t, (Nd.pl3 xs ys zs k)[0]? = some t := ⟨_, List.getElem?_eq_getElem (by first | omega | decide)⟩
   obtain ⟨eb30, eo30, el30, hea30, hD30, her30, hn30⟩ := h29.at ht30
   obtain ⟨a30, cap30, rfl, hts30, hlen30⟩ := hn30.op2
   subst hea30
   have hnT := hn30.lt
   have hrest := (h29).drop1 (by omega)
   have hrest := hrest.lt
   have h31 := (((hn14.ext hE18).ext hE24).bu hB27)
   have h32 := ((hn17.ext hE24).bu hB27)
   have h33 := (hB27.row ((((hR7.ext hE10).ext hE15).ext hE18).ext hE24) (by omega))
   refine WC.weaken (r' := [(6, .bool false), (25, .slice (some ⟨b4, 0, none⟩) 3 3), (26, .int .i64 3), (27, .int .i64 (k : Int)), (7, .slice (some ⟨eb30, eo30, none⟩) ((Nd.pl3 xs ys zs k).length) capp), (28, .bool false), (41, .slice (some ⟨eb30, eo30, none⟩) ((Nd.pl3 xs ys zs k).length) capp), (42, .agg (tcells (Nd.or (Nd.pl3 xs ys zs k)) (.slice a14 (Nd.or (Nd.pl3 xs ys zs k)).subs.length cap14)).toArray), (43, .tuple #[.agg (tcells (Nd.norm (Nd.or (Nd.pl3 xs ys zs k))) (.slice a17 (Nd.norm (Nd.or (Nd.pl3 xs ys zs k))).subs.length cap17)).toArray, .int .i64 0]), (40, .tuple #[.agg (tcells (Nd.norm (Nd.or (Nd.pl3 xs ys zs k))) (.slice a17 (Nd.norm (Nd.or (Nd.pl3 xs ys zs k))).subs.length cap17)).toArray, .int .i64 0]), (44, .agg (tcells (Nd.norm (Nd.or (Nd.pl3 xs ys zs k))) (.slice a17 (Nd.norm (Nd.or (Nd.pl3 xs ys zs k))).subs.length cap17)).toArray), (45, .int .i64 0), (11, pt b20 0), (12, .int .i64 0), (46, .slice (some ⟨eb30, eo30, none⟩) ((Nd.pl3 xs ys zs k).length) capp), (47, .int .i64 ((Nd.pl3 xs ys zs k).length)), (48, .bool false), (51, .int .i64 0), (52, .bool false)]) (s4 (s4 (s4 (s4 (sr rfl (sr rfl (sr rfl (subReg_nil _)))))))) ?_
   refine WC.draw 8 [53, 54, 55, 56, 57, 58, 59, 60] [pemp 30 w28.heap.size, pc (.slice (some ⟨eb30, eo30, none⟩) ((Nd.pl3 xs ys zs k).length) capp), pc (.slice (if capp = 1 then (some ⟨eb30, eo30, none⟩) else Option.map (fun z => Addr.add z (1 * 8)) (some ⟨eb30, eo30, none⟩)) ((Nd.pl3 xs ys zs k).length - 1 : Nat) (capp - 1)), pown 30 w28.heap.size (fun k => k < w28.heap.size) ((Nd.pl3 xs ys zs k).drop 1), pc (.slice (some ⟨eb30, eo30, none⟩) ((Nd.pl3 xs ys zs k).length) capp), pc (pt eb30 (eo30 + 0 * 8)), pc (.agg (tcells t30 (.slice a30 t30.subs.length cap30)).toArray), pslc (tcells t30 (.slice a30 t30.subs.length cap30)) 1 30] (by kernel_rfl) (by kernel_rfl) ⟨KW_pemp _ _, KW_pc _, KW_pc _, KW_pown _ _ _ _, KW_pc _, KW_pc _, KW_pc _, KW_pslc _ _ _, trivial⟩ rfl rfl rfl (sc4 ?_ ?_ ?_ ?_ (sc4 ?_ ?_ ?_ ?_ (StepsOn.nil _))) ?_
   ·intro σ β w1 hE1 hbi hk
    have hz1 := hE1.size
    refine ⟨[], (agree_nil _), ?_⟩
    refine WL.buildSlice0 rfl rfl Ty.slice24 (fun b54 w59 hb55 hE58 hs56 hR57 => ?_)
    exact dqE hbi hE58 ⟨_, rfl, (by omega), hR57⟩
   ·intro σ β w1 hE1 hbi hk
    refine ⟨[], (agree_nil _), ?_⟩
    refine mv ?_
    exact dq hbi rfl
   ·intro σ β w1 hE1 hbi hk
    have hz1 := hE1.size
    refine ⟨[(54, .slice (some ⟨eb30, eo30, none⟩) ((Nd.pl3 xs ys zs k).length) capp)], (ak hk 1 (agree_nil _)), ?_⟩
    refine WL.slice_l (m := 1) rfl rfl Ty.slice24 rfl rfl rfl (by omega) ?_
    exact dq hbi rfl
   ·intro σ β w1 hE1 hbi hk
    have hz1 := hE1.size
    obtain ⟨_, hv54, b54, rfl, hb54, hr54⟩ := kn hk 0 rfl rfl
    refine ⟨[(53, .slice (some ⟨b54, 0, none⟩) 0 0), (55, .slice (if capp = 1 then (some ⟨eb30, eo30, none⟩) else Option.map (fun z => Addr.add z (1 * 8)) (some ⟨eb30, eo30, none⟩)) ((Nd.pl3 xs ys zs k).length - 1 : Nat) (capp - 1))], (ag hv54 (ak hk 2 (agree_nil _))), ?_⟩
    refine WL.appendE (base := w28.heap.size) rfl rfl Ty.slice24 Ty.zero30 rfl small_node rfl rfl (by omega) hr54 (hrest.ext hE1) (by (try simp only [List.length_drop, Nd.turned_len]); omega) (by omega) ?_
    intro v56 w56 hO56 hE56
    have hz56 := hE56.size
    exact dqE hbi hE56 (hO56.dom (by intro k h1 _ _; (try dsimp only at h1); (repeat' first | (guard_hyp h1 : _ ∨ _; refine Or.elim h1 (fun h1 => ?_) (fun h1 => ?_)) | (guard_hyp h1 : _ ∧ _; have hx := h1.2; replace h1 := h1.1)) <;> first | contradiction | omega | (dsimp only; omega)))
   ·intro σ β w1 hE1 hbi hk
    refine ⟨[], (agree_nil _), ?_⟩
    refine mv ?_
    exact dq hbi rfl
   ·intro σ β w1 hE1 hbi hk
    have hz1 := hE1.size
    refine ⟨[(57, .slice (some ⟨eb30, eo30, none⟩) ((Nd.pl3 xs ys zs k).length) capp)], (ak hk 4 (agree_nil _)), ?_⟩
    refine WL.indexAddr (i := 0) rfl rfl Ty.slice24 rfl rfl rfl (by first | omega | decide) ?_
    exact dq hbi rfl
   ·intro σ β w1 hE1 hbi hk
    refine ⟨[(58, pt eb30 (eo30 + 0 * 8))], (ak hk 5 (agree_nil _)), ?_⟩
    refine WL.load_agg (l := tcells t30 (.slice a30 t30.subs.length cap30)) rfl rfl Ty.agg30 rfl (her30.ext hE1) ?_
    exact dq hbi rfl
   ·intro σ β w1 hE1 hbi hk
    refine ⟨[(59, .agg (tcells t30 (.slice a30 t30.subs.length cap30)).toArray)], (ak hk 6 (agree_nil _)), ?_⟩
    refine WL.buildSlice (vs := [.agg (tcells t30 (.slice a30 t30.subs.length cap30)).toArray]) (cells := (tcells t30 (.slice a30 t30.subs.length cap30))) rfl rfl Ty.slice24 Ty.zero30 rfl rfl rfl rfl rfl rfl (fun b55 w60 hb56 hE59 hs57 hR58 => ?_)
    have hts55 := (NodesV.lit (n := 1) (ts := [t30]) hR58 (RowsL.cons ((hn30.ext hE1).ext hE59) (RowsL.nil' _)) rfl rfl (by decide)).lt
    exact dqE hbi hE59 ⟨_, rfl, hR58⟩
   intro σ β w34 hE34 hbi34 hk
   have hz34 := hE34.size
   have hbi := hbi34
   obtain ⟨v35, hv35, hO35⟩ := hk 3 (by decide) _ _ rfl rfl
   obtain ⟨_, hv36, b36, rfl, hR36⟩ := hk 7 (by decide) _ _ rfl rfl
   refine WL.know [(56, v35), (60, .slice (some ⟨b36, 0, none⟩) 1 1)] (ag hv35 (ag hv36 (agree_nil _))) ?_
   have hol37 := hO35.own
   refine WL.append1 rfl rfl Ty.slice24 Ty.zero30 rfl small_node rfl rfl hO35 hR36 (hnT.ext hE34) (by intro k h1 hh; have := hol37 _ hh; first | omega | ((try dsimp only at h1); (repeat' first | (guard_hyp h1 : _ ∨ _; refine Or.elim h1 (fun h1 => ?_) (fun h1 => ?_)) | (guard_hyp h1 : _ ∧ _; have hx := h1.2; replace h1 := h1.1)) <;> first | contradiction | omega)) (by (try simp only [List.length_append, List.length_drop, List.length_singleton]); omega) (by omega) ?_
   intro v37 w37 hG37 hO37 hv37
   have hE37 := grown_below hG37 ((hB27.onto (((((hE2.trans hE8).trans hE10).trans hE15).trans hE18).trans hE24) (by omega)).trans hE34) (by intro k hk; have := hol37 _ hk; omega)
   have hz37 := hE37.size
   have hzz37 := hG37.size
   refine asg ?_
   refine WL.dn ?_
   refine WC.seqk ?_
   have hO13 := hO37
   rw [Nd.turned_at ht30] at hO13
   obtain ⟨a13, c13, hv13, -, -⟩ := hO13.cases
   rw [hv13] at hO13
   have hN13 := hO13.nodes.lt
   have htl := Nd.turned_len (Nd.pl3 xs ys zs k)
   refine WC.weaken (r' := [(6, .bool false), (7, .slice (some ⟨eb30, eo30, none⟩) ((Nd.pl3 xs ys zs k).length) capp), (28, .bool false), (11, pt b20 0), (12, .int .i64 0), (48, .bool false), (52, .bool false), (13, .slice a13 ((Nd.turned (Nd.pl3 xs ys zs k)).length) c13)]) (sr rfl (sr rfl (sr rfl (sr rfl (sr rfl (sr rfl (sr rfl (subReg_cons (congrArg some hv13) (subReg_nil _))))))))) ?_
   refine WC.region ?_
   refine WL.buildSlice0 rfl rfl Ty.slice24 (fun b38 w43 hb39 hE42 hs40 hR41 => ?_)
   refine mv ?_
   refine WL.appendE (base := w37.heap.size) rfl rfl Ty.slice24 Ty.zero30 rfl small_node rfl rfl (by omega) hR41 (hN13.ext hE42) (by (try simp only [List.length_drop, Nd.turned_len]); omega) (by omega) ?_
   intro v44 w44 hO44 hE44
   have hz44 := hE44.size
   refine mv ?_
   have hol45 := hO44.own
   have h46 := ((((h29.ext hE34).grown hG37 (by intro k h1 hlt hh; have := hol37 _ hh; first | omega | ((try dsimp only at h1); (repeat' first | (guard_hyp h1 : _ ∨ _; refine Or.elim h1 (fun h1 => ?_) (fun h1 => ?_)) | (guard_hyp h1 : _ ∧ _; have hx := h1.2; replace h1 := h1.1)) <;> first | contradiction | omega))).ext hE42).ext hE44)
   refine WL.appendV rfl rfl Ty.slice24 Ty.zero30 rfl small_node rfl rfl hO44 h46 (by intro k h1 hh; have := hol45 _ hh; first | omega | ((try dsimp only at h1); (repeat' first | (guard_hyp h1 : _ ∨ _; refine Or.elim h1 (fun h1 => ?_) (fun h1 => ?_)) | (guard_hyp h1 : _ ∧ _; have hx := h1.2; replace h1 := h1.1)) <;> first | contradiction | omega)) (by (try simp only [List.length_append, List.length_drop, List.length_singleton]); omega) (by omega) ?_
   intro v45 w45 hG45 hO45 hv45
   have hE45 := grown_below hG45 ((hE37.trans hE42).trans hE44) (by intro k hk; have := hol45 _ hk; omega)
   have hz45 := hE45.size
   have hzz45 := hG45.size
   refine asg ?_
   refine WL.dn ?_
   refine WC.seqk ?_
   refine WC.seqk ?_
   have hO14 := hO45
   rw [show Nd.turned (Nd.pl3 xs ys zs k) ++ (Nd.pl3 xs ys zs k) = Nd.twice (Nd.pl3 xs ys zs k) from rfl] at hO14
   obtain ⟨a14, c14, hv14, -, -⟩ := hO14.cases
   rw [hv14] at hO14
   have hN14 := hO14.nodes.lt
   refine WC.weaken (r' := [(6, .bool false), (28, .bool false), (11, pt b20 0), (12, .int .i64 0), (48, .bool false), (52, .bool false), (13, .slice a13 ((Nd.turned (Nd.pl3 xs ys zs k)).length) c13), (14, .slice a14 ((Nd.twice (Nd.pl3 xs ys zs k)).length) c14)]) (sr rfl (sr rfl (sr rfl (sr rfl (sr rfl (sr rfl (sr rfl (subReg_cons (congrArg some hv14) (subReg_nil _))))))))) ?_
   refine WC.region ?_
   refine mv ?_
   refine mv ?_
   refine WL.buildSlice (vs := [.slice a13 ((Nd.turned (Nd.pl3 xs ys zs k)).length) c13, .slice a14 ((Nd.twice (Nd.pl3 xs ys zs k)).length) c14]) (cells := [.slice a13 ((Nd.turned (Nd.pl3 xs ys zs k)).length) c13, .slice a14 ((Nd.twice (Nd.pl3 xs ys zs k)).length) c14]) rfl rfl Ty.slice37 Ty.zero24 rfl rfl rfl rfl rfl rfl (fun b47 w52 hb48 hE51 hs49 hR50 => ?_)
   have h54 := ((((hN13.ext hE42).ext hE44).grown hG45 (by intro k h1 hlt hh; have := hol45 _ hh; first | omega | ((try dsimp only at h1); (repeat' first | (guard_hyp h1 : _ ∨ _; refine Or.elim h1 (fun h1 => ?_) (fun h1 => ?_)) | (guard_hyp h1 : _ ∧ _; have hx := h1.2; replace h1 := h1.1)) <;> first | contradiction | omega))).ext hE51)
   have hl53 := (NLists.lit2 (D := fun _ => True) hR50 (h54.dom (fun _ _ => trivial)) ((hN14.ext hE51).dom (fun _ _ => trivial)) trivial).lt
   refine WL.len rfl rfl Try.underlying37 rfl ?_
   refine mv ?_
   refine WL.dn ?_
   refine WC.block ?_
   refine WC.weaken (r' := [(6, .bool false), (11, pt b20 0), (12, .int .i64 0), (69, .slice (some ⟨b47, 0, none⟩) 2 2), (70, .int .i64 2), (71, .int .i64 0)]) (s4 (sr rfl (sr rfl (subReg_nil _)))) ?_
   refine WC.loop (σ := Nat) (fun j r_ w_ => r_ = [(6, .bool false), (11, pt b20 0), (12, .int .i64 0), (69, .slice (some ⟨b47, 0, none⟩) 2 2), (70, .int .i64 2), (71, .int .i64 (j : Int))] ∧ Ext w52 w_ ∧ j ≤ 2) (fun j => 2 - j) 0 ⟨rfl, (Ext.refl _), (Nat.zero_le _)⟩ ?_
   rintro j r_ w57 ⟨rfl, hE55, hI56⟩
   have hzhE55 := hE55.size
   have hj := hI56
   refine sq ?_
   cases hc58 : decide (((j : Int) : Int) < 2) with
   | false =>
    refine WL.lss rfl rfl rfl rfl hc58 ?_
    have hp58 := of_decide_eq_false hc58
    refine WL.dn ?_
    refine WC.seqk ?_
    refine cF ?_
    refine WC.exit (fun a_ ha => ?_)
    refine exit_then ?_
    refine exit_then ?_
    refine exit_here ?_
    refine WC.at ?_ ha
    refine sq ?_
    refine WL.call rfl rfl rfl Ty.ent12 (class11_ok _ ([97]) (by decide)) ?_
    rintro _ w61 ⟨l59, rfl, hr59, hE60⟩
    have hzhE60 := hE60.size
    refine ⟨_, rfl, ?_⟩
    have hn59 := hr59.lt
    obtain ⟨a59, cap59, rfl, hts59, hlen59⟩ := hn59.op2
    refine WL.call rfl rfl rfl Ty.ent12 (class11_ok _ ([98]) (by decide)) ?_
    rintro _ w64 ⟨l62, rfl, hr62, hE63⟩
    have hzhE63 := hE63.size
    refine ⟨_, rfl, ?_⟩
    have hn62 := hr62.lt
    obtain ⟨a62, cap62, rfl, hts62, hlen62⟩ := hn62.op2
    refine WL.buildSlice (vs := [.agg (tcells qe1 (.slice a59 qe1.subs.length cap59)).toArray, .agg (tcells qe2 (.slice a62 qe2.subs.length cap62)).toArray]) (cells := (tcells qe1 (.slice a59 qe1.subs.length cap59) ++ tcells qe2 (.slice a62 qe2.subs.length cap62))) rfl rfl Ty.slice24 Ty.zero30 rfl rfl rfl rfl rfl rfl (fun b65 w70 hb66 hE69 hs67 hR68 => ?_)
    have hts65 := (NodesV.lit (n := 2) (ts := [qe1, qe2]) hR68 (RowsL.cons ((hn59.ext hE63).ext hE69) (RowsL.cons (hn62.ext hE69) (RowsL.nil' _))) rfl rfl (by decide)).lt
    refine WL.call rfl rfl rfl Ty.ent10 (or_ok _ _ _ _ ([qe1, qe2]) hts65 (Nat.le_of_ble_eq_true rfl)) ?_
    rintro _ w73 ⟨l71, rfl, hr71, hE72⟩
    have hzhE72 := hE72.size
    refine ⟨_, rfl, ?_⟩
    have hn71 := hr71.lt
    obtain ⟨a71, cap71, rfl, hts71, hlen71⟩ := hn71.op2
    have hab := Nd.pairB_all (T := Nd.or [(Nd.classS [97]), (Nd.classS [98])]) (U := Nd.classS [97, 98]) (by kernel_rfl)
    refine WL.call rfl rfl rfl Ty.ent9 (Norm_okC hn71 hab.1 hab.2.1 hab.2.2.1) ?_
    rintro _ w76 ⟨l74, rfl, hr74, hE75⟩
    have hzhE75 := hE75.size
    refine ⟨_, rfl, ?_⟩
    rw [hab.2.2.2.1] at hr74
    have hn74 := hr74.lt
    obtain ⟨a74, cap74, rfl, hts74, hlen74⟩ := hn74.op2
    refine mv ?_
    refine WL.extract rfl rfl rfl rfl ?_
    refine WL.extract rfl rfl rfl rfl ?_
    refine WL.alloc rfl rfl Ty.zero30 rfl (fun b77 w82 hb78 hE81 hs79 hR80 => ?_)
    refine WL.store_box rfl rfl rfl hR80 Ty.agg30 rfl rfl (fun w85 hB84 hR83 => ?_)
    have hzhB84 := hB84.size
    refine asg ?_
    refine WL.dn ?_
    refine WC.seqk ?_
    have h86 := ((((((hn59.ext hE63).ext hE69).ext hE72).ext hE75).ext hE81).bu hB84)
    have h87 := (((((hn62.ext hE69).ext hE72).ext hE75).ext hE81).bu hB84)
    have h88 := ((((hts65.ext hE72).ext hE75).ext hE81).bu hB84)
    have h89 := (((hn71.ext hE75).ext hE81).bu hB84)
    have h90 := ((hn74.ext hE81).bu hB84)
    have h91 := (hB84.row (((((((((grown_row hG45 (((grown_row hG37 (hR26.ext hE34) (fun hh => by have := hol37 _ hh; omega)).ext hE42).ext hE44) (fun hh => by have := hol45 _ hh; omega)).ext hE51).ext hE55).ext hE60).ext hE63).ext hE69).ext hE72).ext hE75).ext hE81) (by omega))
    have h92 := ((((((((((((((h32.ext hE34).grown hG37 (by intro k h1 hlt hh; have := hol37 _ hh; first | omega | ((try dsimp only at h1); (repeat' first | (guard_hyp h1 : _ ∨ _; refine Or.elim h1 (fun h1 => ?_) (fun h1 => ?_)) | (guard_hyp h1 : _ ∧ _; have hx := h1.2; replace h1 := h1.1)) <;> first | contradiction | omega))).ext hE42).ext hE44).grown hG45 (by intro k h1 hlt hh; have := hol45 _ hh; first | omega | ((try dsimp only at h1); (repeat' first | (guard_hyp h1 : _ ∨ _; refine Or.elim h1 (fun h1 => ?_) (fun h1 => ?_)) | (guard_hyp h1 : _ ∧ _; have hx := h1.2; replace h1 := h1.1)) <;> first | contradiction | omega))).ext hE51).ext hE55).ext hE60).ext hE63).ext hE69).ext hE72).ext hE75).ext hE81).bu hB84)
    refine WC.weaken (r' := [(6, .bool false), (11, pt b20 0), (12, .int .i64 0), (69, .slice (some ⟨b47, 0, none⟩) 2 2), (70, .int .i64 2), (71, .int .i64 (j : Int)), (72, .bool false), (91, .agg (tcells qe1 (.slice a59 qe1.subs.length cap59)).toArray), (92, .agg (tcells qe2 (.slice a62 qe2.subs.length cap62)).toArray), (93, .slice (some ⟨b65, 0, none⟩) 2 2), (94, .agg (tcells (Nd.or ([qe1, qe2])) (.slice a71 (Nd.or ([qe1, qe2])).subs.length cap71)).toArray), (95, .tuple #[.agg (tcells qe3 (.slice a74 qe3.subs.length cap74)).toArray, .int .i64 0]), (90, .tuple #[.agg (tcells qe3 (.slice a74 qe3.subs.length cap74)).toArray, .int .i64 0]), (96, .agg (tcells qe3 (.slice a74 qe3.subs.length cap74)).toArray), (97, .int .i64 0), (19, pt b77 0)]) (s4 (s4 (s4 (s4 (subReg_nil _))))) ?_
    refine WC.draw 5 [98, 99, 100, 101, 102] [pc (.int .i64 0), pc (.bool true), pc (.bool true), pc (.agg (tcells qe3 (.slice a74 qe3.subs.length cap74)).toArray), pnode (fun k => w85.heap.size ≤ k) qe4] (by kernel_rfl) (by kernel_rfl) (k4 ⟨KW_pnode _ _, trivial⟩) rfl rfl rfl (sc4 ?_ ?_ ?_ ?_ (sc ?_ (StepsOn.nil _))) ?_
    ·intro σ β w1 hE1 hbi hk
     refine ⟨[], (agree_nil _), ?_⟩
     refine mv ?_
     exact dq hbi rfl
    ·intro σ β w1 hE1 hbi hk
     refine ⟨[(98, .int .i64 0)], (ak hk 0 (agree_nil _)), ?_⟩
     refine WL.eql rfl rfl rfl rfl rfl ?_
     exact dq hbi rfl
    ·intro σ β w1 hE1 hbi hk
     refine ⟨[(99, .bool true)], (ak hk 1 (agree_nil _)), ?_⟩
     refine mv ?_
     exact dq hbi rfl
    ·intro σ β w1 hE1 hbi hk
     refine ⟨[(100, .bool true)], (ak hk 2 (agree_nil _)), ?_⟩
     refine WL.load_box rfl rfl rfl (hR83.ext hE1) Ty.agg30 ?_
     exact dq hbi rfl
    ·intro σ β w1 hE1 hbi hk
     refine ⟨[(100, .bool true)], (ak hk 2 (agree_nil _)), ?_⟩
     refine WL.call rfl rfl rfl Ty.ent12 (class11_ok _ ([97, 98]) (by decide)) ?_
     rintro _ w116 ⟨l114, rfl, hr114, hE115⟩
     refine ⟨_, rfl, ?_⟩
     have hn114 := hr114.lt
     obtain ⟨a114, cap114, rfl, hts114, hlen114⟩ := hn114.op2
     exact dqE hbi hE115 ⟨_, rfl, (hr114.off0 hbi (fun k hk => Nat.le_trans hE1.size hk))⟩
    intro σ β w93 hE93 hbi93 hk
    have hz93 := hE93.size
    have hbi := hbi93
    obtain ⟨_, hv96, l96, rfl, hn96⟩ := hk 4 (by decide) _ _ rfl rfl
    have hn96 := hn96.lt
    obtain ⟨a96, cap96, rfl, hts96, hlen96⟩ := hn96.op2
    refine WL.know [(100, .bool true), (101, .agg (tcells qe3 (.slice a74 qe3.subs.length cap74)).toArray), (102, .agg (tcells qe4 (.slice a96 qe4.subs.length cap96)).toArray)] (aj hk 2 (aj hk 3 (ag hv96 (agree_nil _)))) ?_
    refine WL.call rfl rfl rfl Ty.ent11 (Same_ok _ _ _ _ _ qe3 qe4 (h90.ext hE93) hn96) ?_
    rintro _ w98 ⟨he, hE97⟩
    have hq : (Nd.light qe3 && Nd.light qe4 && Nd.same qe3 qe4) = true := (by kernel_rfl)
    rw [hq] at he
    subst he
    clear hq
    have hzhE97 := hE97.size
    refine ⟨_, rfl, ?_⟩
    refine pT ?_
    refine asg ?_
    refine WL.dn ?_
    refine WC.ret (fun a_ ha => ?_)
    exact bodyPost_tmp rfl ha rfl ⟨rfl, (((hB84.onto ((((((((hE45.trans hE51).trans hE55).trans hE60).trans hE63).trans hE69).trans hE72).trans hE75).trans hE81) (by omega)).trans hE93).trans hE97)⟩
   | true =>
    refine WL.lss rfl rfl rfl rfl hc58 ?_
    have hp58 := of_decide_eq_true hc58
    refine WL.dn ?_
    refine WC.seqk ?_
    refine cT ?_
    refine WC.sk ?_
    refine WC.seqk ?_
    refine WC.block ?_
    refine sq ?_
    obtain ⟨ts59, ht59⟩ : ∃ t, [(Nd.turned (Nd.pl3 xs ys zs k)), (Nd.twice (Nd.pl3 xs ys zs k))][j]? = some t := ⟨_, List.getElem?_eq_getElem (by show _ < 2; omega)⟩
    obtain ⟨eb59, eo59, ai59, ci59, hea59, hD59, hc59, hts59⟩ := (hl53.ext hE55).at ht59
    cases hea59
    have hts59 := hts59.lt
    refine WL.indexAddr (i := j) rfl rfl Ty.slice37 rfl rfl rfl (by omega) ?_
    refine WL.load_flat rfl rfl Ty.flat24 rfl hc59 ?_
    refine asg ?_
    refine WL.dn ?_
    refine sq ?_
    refine mv ?_
    have hX := hTr.at h0 ht59
    refine WL.call rfl rfl rfl Ty.ent10 (or_ok _ _ _ _ ts59 hts59 (by have h1 := hX.1.sz; have h2 := Nd.length_le_sizeL ts59; omega)) ?_
    rintro _ w62 ⟨l60, rfl, hr60, hE61⟩
    have hzhE61 := hE61.size
    refine ⟨_, rfl, ?_⟩
    have hn60 := hr60.lt
    obtain ⟨a60, cap60, rfl, hts60, hlen60⟩ := hn60.op2
    refine WL.call rfl rfl rfl Ty.ent9 (Norm_okC hn60 (Nd.or_fine hX.1).1.clean (Nd.or_fine hX.1).1 (Nd.or_fine hX.1).2) ?_
    rintro _ w65 ⟨l63, rfl, hr63, hE64⟩
    have hzhE64 := hE64.size
    refine ⟨_, rfl, ?_⟩
    rw [hX.2] at hr63
    have hn63 := hr63.lt
    obtain ⟨a63, cap63, rfl, hts63, hlen63⟩ := hn63.op2
    refine mv ?_
    refine WL.extract rfl rfl rfl rfl ?_
    refine WL.extract rfl rfl rfl rfl ?_
    refine WL.alloc rfl rfl Ty.zero30 rfl (fun b66 w71 hb67 hE70 hs68 hR69 => ?_)
    refine WL.store_box rfl rfl rfl hR69 Ty.agg30 rfl rfl (fun w74 hB73 hR72 => ?_)
    have hzhB73 := hB73.size
    refine asg ?_
    refine WL.dn ?_
    refine sq ?_
    refine mv ?_
    refine WL.neq rfl rfl rfl rfl rfl ?_
    refine mv ?_
    refine WL.load_box rfl rfl rfl hR72 Ty.agg30 ?_
    have h75 := (hB73.row ((((((grown_row hG45 (((grown_row hG37 (hR26.ext hE34) (fun hh => by have := hol37 _ hh; omega)).ext hE42).ext hE44) (fun hh => by have := hol45 _ hh; omega)).ext hE51).ext hE55).ext hE61).ext hE64).ext hE70) (by omega))
    refine WL.load_box rfl rfl rfl h75 Ty.agg30 ?_
    have h76 := ((hn63.ext hE70).bu hB73)
    have h77 := (((((((((((h32.ext hE34).grown hG37 (by intro k h1 hlt hh; have := hol37 _ hh; first | omega | ((try dsimp only at h1); (repeat' first | (guard_hyp h1 : _ ∨ _; refine Or.elim h1 (fun h1 => ?_) (fun h1 => ?_)) | (guard_hyp h1 : _ ∧ _; have hx := h1.2; replace h1 := h1.1)) <;> first | contradiction | omega))).ext hE42).ext hE44).grown hG45 (by intro k h1 hlt hh; have := hol45 _ hh; first | omega | ((try dsimp only at h1); (repeat' first | (guard_hyp h1 : _ ∨ _; refine Or.elim h1 (fun h1 => ?_) (fun h1 => ?_)) | (guard_hyp h1 : _ ∧ _; have hx := h1.2; replace h1 := h1.1)) <;> first | contradiction | omega))).ext hE51).ext hE55).ext hE61).ext hE64).ext hE70).bu hB73)
    refine WL.call rfl rfl rfl Ty.ent11 (Same_ok _ _ _ _ _ (Nd.norm (Nd.or (Nd.pl3 xs ys zs k))) (Nd.norm (Nd.or (Nd.pl3 xs ys zs k))) h76 h77) ?_
    rintro _ w79 ⟨he, hE78⟩
    have hq : (Nd.light (Nd.norm (Nd.or (Nd.pl3 xs ys zs k))) && Nd.light (Nd.norm (Nd.or (Nd.pl3 xs ys zs k))) && Nd.same (Nd.norm (Nd.or (Nd.pl3 xs ys zs k))) (Nd.norm (Nd.or (Nd.pl3 xs ys zs k)))) = true := (Nd.Same_self (Nd.normOk _ (Nd.or_fine (hTr.self h0)).1 (Nd.or_fine (hTr.self h0)).2).1.light)
    rw [hq] at he
    subst he
    clear hq
    have hzhE78 := hE78.size
    refine ⟨_, rfl, ?_⟩
    refine WL.not rfl rfl rfl ?_
    refine pF ?_
    refine WL.dn ?_
    refine cF ?_
    refine WC.sk ?_
    refine WC.region ?_
    refine WL.add (v := (j : Int) + 1) rfl rfl rfl rfl (IntWalk.i64_in _ (by omega)) ?_
    refine mv ?_
    refine WL.nil (fun a_ ha => ?_)
    exact ⟨j + 1, _, ha.weaken (s4 (sr rfl (sr rfl (subReg_nil _)))), ⟨rfl, ((hB73.onto (((hE55.trans hE61).trans hE64).trans hE70) (by omega)).trans hE78), by omega⟩, by first | omega | (dsimp only; omega)⟩
 | true =>
  refine WL.lss rfl rfl rfl rfl hc13 ?_
  have hp13 := of_decide_eq_true hc13
  refine WL.dn ?_
  refine WC.seqk ?_
  refine cT ?_
  refine WC.sk ?_
  refine WC.seqk ?_
  refine WC.block ?_
  refine sq ?_
  refine WL.indexAddr (i := k) rfl rfl Ty.slice25 rfl rfl rfl (by omega) ?_
  obtain ⟨x14, D14, a14, c14, hck14, hx14, hkk14⟩ : ∃ (x : List (Int × Int × Int)) (D : Nat → Prop) (a : Option Addr) (c : Nat), ([.slice axs xs.length capxs, .slice ays ys.length capys, .slice azs zs.length capzs] : List Value)[k]? = some (.slice a x.length c) ∧ SmallV D w (.slice a x.length c) x ∧ [xs, ys, zs][k]? = some x := by
   rcases (show k = 0 ∨ k = 1 ∨ k = 2 by omega) with rfl | rfl | rfl
   ·exact ⟨xs, _, _, _, rfl, hxxs, rfl⟩
   ·exact ⟨ys, _, _, _, rfl, hxys, rfl⟩
   ·exact ⟨zs, _, _, _, rfl, hxzs, rfl⟩
  have hsm14 := hall x14 (List.mem_of_getElem? hkk14)
  refine WL.load_fld (v := .slice a14 x14.length c14) rfl rfl Ty.flat22 rfl (hR7.ext hE10) (by rw [Nat.zero_add, Nat.mul_one]; exact hck14) ?_
  refine asg ?_
  refine WL.dn ?_
  refine sq ?_
  refine mv ?_
  refine WL.call rfl rfl rfl Ty.ent7 (made_ok _ _ _ _ x14 (hx14.ext ((hE2.trans hE8).trans hE10))) ?_
  rintro _ w17 ⟨l15, rfl, hr15, hE16⟩
  have hzhE16 := hE16.size
  refine ⟨_, rfl, ?_⟩
  have hn15 := hr15.lt
  obtain ⟨a15, cap15, rfl, hts15, hlen15⟩ := hn15.op2
  refine WL.alloc rfl rfl Ty.zero30 rfl (fun b18 w23 hb19 hE22 hs20 hR21 => ?_)
  refine WL.store_box rfl rfl rfl hR21 Ty.agg30 rfl rfl (fun w26 hB25 hR24 => ?_)
  have hzhB25 := hB25.size
  refine WL.dn ?_
  refine sq ?_
  refine WL.load_box rfl rfl rfl hR24 Ty.agg30 ?_
  have h27 := ((hn15.ext hE22).bu hB25)
  refine WL.call rfl rfl rfl Ty.ent8 (Plain_ok _ _ _ (Nd.made x14) h27) ?_
  rintro _ w29 ⟨rfl, hE28⟩
  have hzhE28 := hE28.size
  refine ⟨_, rfl, ?_⟩
  cases hc30 : Nd.clean (Nd.made x14) && Nd.plain (Nd.made x14) with
  | false =>
   refine WL.dn ?_
   refine cF ?_
   refine WC.sk ?_
   refine WC.region ?_
   refine WL.add (v := (k : Int) + 1) rfl rfl rfl rfl (IntWalk.i64_in _ (by omega)) ?_
   refine mv ?_
   refine WL.nil (fun a_ ha => ?_)
   have h31 := ((((hO.ext hE16).ext hE22).but hB25 (fun h1 => by first | omega | (dsimp only at h1; omega)) (fun hk => by have := ((hO.ext hE16).ext hE22).own _ hk; have := hol _ hk; omega)).ext hE28)
   exact ⟨(k + 1, .slice ap ((Nd.pl3 xs ys zs k).length) capp), _, ha.weaken (s4 (sr rfl (subReg_nil _))), ⟨rfl, ((hB25.onto ((hE10.trans hE16).trans hE22) (by omega)).trans hE28), ⟨by first | omega | (dsimp only; omega), (by dsimp only; rw [Nd.pl3_succ hkk14 hsm14]; simp only [hc30, cond_true, cond_false, List.append_nil]; exact h31.dom (by intro k h1 _ _; (try dsimp only at h1); (repeat' first | (guard_hyp h1 : _ ∨ _; refine Or.elim h1 (fun h1 => ?_) (fun h1 => ?_)) | (guard_hyp h1 : _ ∧ _; have hx := h1.2; replace h1 := h1.1)) <;> first | contradiction | omega | (dsimp only; omega)))⟩⟩, by first | omega | (dsimp only; omega)⟩
  | true =>
   refine WL.dn ?_
   refine cT ?_
   refine WC.region ?_
   refine mv ?_
   refine WL.load_box rfl rfl rfl (hR24.ext hE28) Ty.agg30 ?_
   refine WL.buildSlice (vs := [.agg (tcells (Nd.made x14) (.slice a15 (Nd.made x14).subs.length cap15)).toArray]) (cells := (tcells (Nd.made x14) (.slice a15 (Nd.made x14).subs.length cap15))) rfl rfl Ty.slice24 Ty.zero30 rfl rfl rfl rfl rfl rfl (fun b31 w36 hb32 hE35 hs33 hR34 => ?_)
   have hts31 := (NodesV.lit (n := 1) (ts := [(Nd.made x14)]) hR34 (RowsL.cons ((h27.ext hE28).ext hE35) (RowsL.nil' _)) rfl rfl (by decide)).lt
   have h37 := (((((hO.ext hE16).ext hE22).but hB25 (fun h1 => by first | omega | (dsimp only at h1; omega)) (fun hk => by have := ((hO.ext hE16).ext hE22).own _ hk; have := hol _ hk; omega)).ext hE28).ext hE35)
   have hol38 := h37.own
   have h39 := ((h27.ext hE28).ext hE35)
   refine WL.append1 rfl rfl Ty.slice24 Ty.zero30 rfl small_node rfl rfl h37 hR34 h39 (by intro k h1 hh; have := hol38 _ hh; have := hol _ hh; first | omega | ((try dsimp only at h1); (repeat' first | (guard_hyp h1 : _ ∨ _; refine Or.elim h1 (fun h1 => ?_) (fun h1 => ?_)) | (guard_hyp h1 : _ ∧ _; have hx := h1.2; replace h1 := h1.1)) <;> first | contradiction | omega)) (by (try simp only [List.length_append, List.length_drop, List.length_singleton]); omega) (by omega) ?_
   intro v38 w38 hG38 hO38 hv38
   have hE38 := grown_below hG38 (((hB25.onto ((((hE2.trans hE8).trans hE10).trans hE16).trans hE22) (by omega)).trans hE28).trans hE35) (by intro k hk; have := hol38 _ hk; omega)
   have hz38 := hE38.size
   have hzz38 := hG38.size
   refine asg ?_
   refine WL.dn ?_
   refine WC.region ?_
   refine WL.add (v := (k : Int) + 1) rfl rfl rfl rfl (IntWalk.i64_in _ (by omega)) ?_
   refine mv ?_
   refine WL.nil (fun a_ ha => ?_)
   exact ⟨(k + 1, v38), _, ha.weaken (s4 (sr rfl (subReg_nil _))), ⟨rfl, (grown_below hG38 (((hB25.onto ((hE10.trans hE16).trans hE22) (by omega)).trans hE28).trans hE35) (by intro k hh; have := hol38 _ hh; have := hol _ hh; omega)), ⟨by first | omega | (dsimp only; omega), (by dsimp only; rw [Nd.pl3_succ hkk14 hsm14]; simp only [hc30, cond_true, cond_false, List.append_nil]; exact hO38.dom (by intro k h1 _ _; (try dsimp only at h1); (repeat' first | (guard_hyp h1 : _ ∨ _; refine Or.elim h1 (fun h1 => ?_) (fun h1 => ?_)) | (guard_hyp h1 : _ ∧ _; have hx := h1.2; replace h1 := h1.1)) <;> first | contradiction | omega | (dsimp only; omega)))⟩⟩, by first | omega | (dsimp only; omega)⟩
end Go.Proofs.Yteenegaadlhjdaa
namespace Go.Proofs.Yteenegaadlhjdaa
open Go.RowKit Go.WideShapes Go.ChangeShapes Go.Deep
section
variable {H : Type} {enc : TypeId × Value → H} {P : Program}
theorem u8_wf {n : Int} (h : (Lit.int .u8 n).wf = true) : 0 ≤ n ∧ n ≤ 255 := by
  simp only [Lit.wf, Bool.and_eq_true, decide_eq_true_eq] at h
  exact h
theorem open_small {w : World} {base : Nat} {held : Bool} {t e : TypeId} {f0 f1 f2 : Field} {fuel : Nat} {v : Value} {x : DataW H × List MemPlace} (ht : P.underlying t = some (.slice e)) (he : P.underlying e = some (.struct #[f0, f1, f2]))
    (ce : P.cellsOf e = 3) (ho : f0.offset = 0 ∧ f1.offset = 1 ∧ f2.offset = 2) (hc : P.cellsOf f0.type = 1 ∧ P.cellsOf f1.type = 1 ∧ P.cellsOf f2.type = 1)
    (hu : P.underlying f0.type = some (.int .u8) ∧ P.underlying f1.type = some (.int .u8) ∧ P.underlying f2.type = some (.int .u8))
    (h : DataW.trod enc P w base (fun _ => true) held fuel t [v] = some x) : ∃ a cap xs, v = .slice a xs.length cap ∧ SmallV (fun _ => True) w (.slice a xs.length cap) xs := by
  rcases open_slice ht h with ⟨h0, -⟩ | ⟨a, len, cap, m, n, D, Pl, h0, hb, hl, hm, hmm, -, hx⟩
  · simp only [List.cons.injEq, and_true] at h0
    subst h0
    exact ⟨none, 0, [], rfl, ⟨none, 0, rfl, by simp, .inl rfl⟩, by simp⟩
  · simp only [List.cons.injEq, and_true] at h0
    subst h0
    have hmm : m = cap := by simpa using hmm
    subst hmm
    have each : ∀ i, i < len → ∃ y : Int × Int × Int, (∀ j u, (cells3 y)[j]? = some u → w.cell? (a.add (i * 3 + j)) = some u) ∧ (0 ≤ y.1 ∧ y.1 ≤ 255) ∧ (0 ≤ y.2.1 ∧ y.2.1 ≤ 255) ∧ 0 ≤ y.2.2 ∧ y.2.2 ≤ 255 := by
      intro i hi
      obtain ⟨cs', h1, h2⟩ := hx i (by omega)
      rw [ce] at h1
      obtain ⟨_, hlen, hcell⟩ := World.cells?_some h1
      obtain ⟨ys, k, _, _, _, hyl, hf⟩ := DataW.trod_struct he h2
      match ys, hyl, cs', hlen with
      | [y0, y1, y2], _, [v0, v1, v2], _ =>
        have g0 := hf 0 f0 rfl
        have g1 := hf 1 f1 rfl
        have g2 := hf 2 f2 rfl
        simp [ho.1, ho.2.1, ho.2.2, hc.1, hc.2.1, hc.2.2] at g0 g1 g2
        obtain ⟨n0, e0, _, w0⟩ := DataW.trod_int hu.1 g0
        obtain ⟨n1, e1, _, w1⟩ := DataW.trod_int hu.2.1 g1
        obtain ⟨n2, e2, _, w2⟩ := DataW.trod_int hu.2.2 g2
        simp only [List.cons.injEq, and_true] at e0 e1 e2
        subst e0; subst e1; subst e2
        have r0 := hcell 0 (by omega)
        have r1 := hcell 1 (by omega)
        have r2 := hcell 2 (by omega)
        rw [add_add] at r0 r1 r2
        refine ⟨(n0, n1, n2), ?_, ?_, ?_, ?_⟩
        · intro j u hj
          match j with
          | 0 => simp at hj; subst hj; simpa using r0
          | 1 => simp at hj; subst hj; simpa using r1
          | 2 => simp at hj; subst hj; simpa using r2
          | j + 3 => simp at hj
        · exact u8_wf w0
        · exact u8_wf w1
        · exact u8_wf w2
    obtain ⟨X, hX⟩ := choose_lt each
    refine ⟨some a, m, (List.range len).map X, by simp, ⟨some a, m, by simp, ?_, ?_⟩, ?_⟩
    · simp only [maxLen] at hm
      simp only [List.length_map, List.length_range]; simp at hm; omega
    · by_cases h0 : len = 0
      · left; subst h0; simp
      · right
        have hsp : a.spot = none := by
          have h1 := (hX 0 (by omega)).1 0 _ rfl
          cases hs : a.spot with
          | none => rfl
          | some s =>
            rw [Nat.zero_mul, Nat.add_zero] at h1
            have hz : a.add 0 = a := by simp [Addr.add]
            rw [hz] at h1
            unfold World.cell? at h1
            rw [hs] at h1
            revert h1
            split
            · intro h1; simp at h1
            · intro h1; cases h1
        obtain ⟨b, o, s⟩ := a
        simp only at hsp
        subst hsp
        refine ⟨b, o, rfl, trivial, fun i l hl j u hj => ?_⟩
        rw [List.getElem?_map] at hl
        have hi : i < len := by
          rcases Nat.lt_or_ge i len with h | h
          · exact h
          · rw [List.getElem?_eq_none (by simpa using h)] at hl; simp at hl
        rw [List.getElem?_range hi] at hl
        simp only [Option.map_some, Option.some.injEq] at hl
        subst hl
        have := (hX i hi).1 j u hj
        rw [addr_add] at this
        rw [Nat.add_assoc]; exact this
    · intro x hx
      obtain ⟨i, hi, rfl⟩ := List.mem_map.1 hx
      exact (hX i (by simpa using hi)).2
theorem post_of_below {f : Func} {s : ChangeSpec} {apart fresh handsOn again : Bool} {W W' : World} {args : Array Value} {v : Value} {ds gs : List (DataW H)} {before pa pv : List MemPlace}
    (hW : DataW.Whole enc P f.params.toList s.vars apart W args.toList ds gs before)
    (hres : ∀ (b : Nat) (sp : Nat → Bool) (hd : Bool), DataW.TrodAll enc P W' b sp hd f.resultTypes.toList (v.resultList f.resultTypes.size) (s.fn H (ds ++ gs)).results [])
    (hargs : ∀ sp : Nat → Bool, (∀ p ∈ before, sp p.block = true) → DataW.TrodAll enc P W' 0 sp true f.params.toList args.toList (s.fn H (ds ++ gs)).args pa)
    (hvars : ∀ sp : Nat → Bool, (∀ p ∈ before, sp p.block = true) → DataW.TrodVars enc P W' sp s.vars (s.fn H (ds ++ gs)).vars pv)
    (hps : before = pa ++ pv) (hb : Below W.heap.size W W')
    (hok : ∀ (j : Nat) (t : TypeId) (r : Value), f.resultTypes[j]? = some t → (v.resultList f.resultTypes.size)[j]? = some r → Value.okWide P W' .any 0 t r) :
    s.post enc P f apart fresh handsOn again W args v W' := by
  have hlt : ∀ p ∈ before, p.block < W.heap.size := fun p hp => hW.lt p hp
  have hold : ∀ p ∈ before, (fun b => decide (b < W.heap.size)) p.block = true := fun p hp => by simpa using hlt p hp
  refine ⟨ds, gs, before, [], pa, pv, hW, hres _ _ _, hargs _ hold, hvars _ hold, World.keptBut_mono (fun p hp => ⟨hp, ?_⟩) (hb.frame (· ∈ before)), fun _ => ?_⟩
  · rw [hps, List.mem_append] at hp
    exact Or.inr hp
  · obtain ⟨_, _, _, _, _, hz, hn⟩ := hW
    refine ⟨hok, _, _, ([] ++ pa) ++ pv, ⟨[] ++ pa, pv, trodAll_append (hargs _ (fun _ _ => rfl)) (hres _ _ _), hvars _ (fun _ _ => rfl), rfl, ?_, ?_⟩, ?_⟩
    · intro b off hp
      have hin : MemPlace.cell b off ∈ before := by rw [hps]; simpa using hp
      rw [hb.frozen (hlt _ hin)]
      exact hz b off hin
    · intro ha
      have := hn ha
      rw [hps] at this
      simpa using this
    · intro p hp _
      rw [hps]
      simpa using hp
theorem stay {t : TypeId} (hl : laidOutB P = true) (hr : P.readableRec t = true) (hrow : t < P.types.size) {W W' : World} {v : Value} {d : DataW H} {ps : List MemPlace}
    (h : DataW.Trod enc P W 0 (fun _ => true) true t v d ps) (hb : Below W.heap.size W W') (hlt : ∀ x ∈ ps, x.block < W.heap.size) {sp : Nat → Bool} (hs : ∀ x ∈ ps, sp x.block = true) : DataW.Trod enc P W' 0 sp true t v d ps :=
  WideElems.Trod_stays hl hr hrow h (fun x hx => hb.same (hlt x hx)) hs
end
end Go.Proofs.Yteenegaadlhjdaa
namespace Go.Proofs.Yteenegaadlhjdaa
open Go.ChangeShapes Go.WideShapes Go.ChangeAt Go.RowKit
theorem own_rxnormOrder : ownKnob Try.prog.godebug = none := by kernel_rfl
theorem laid_rxnormOrder : laidOutB Try.prog = true := by kernel_rfl
set_option maxRecDepth 100000 in
theorem lifted_rxnormOrder (os : Os) (started : os.Started) (H : Type) (enc : TypeId × Value → H) :
  ReturnsInHanded {} Try.checked os 3 .any (Rows.rxnormOrderSpec.pre6 enc Try.prog Try.f3 Rows.rxnormOrderRow.domain false) (Rows.rxnormOrderSpec.post enc Try.prog Try.f3 false true false false) := by
 refine returnsInHanded_of_change (C := Try.checked) own_rxnormOrder started (by kernel_rfl) Try.func3
  (ChangeSpec.witness6 (enc := enc) (C := Try.checked) false ⟨#[], #[.slice none 0 0, .slice none 0 0, .slice none 0 0], []⟩ 8 (by kernel_rfl) (by kernel_rfl) (by kernel_rfl) (by kernel_rfl)) ?_
 intro W base args ds gs before hval0 hW hcnd _
 have hval : ∀ (j : Nat) t v, Try.f3.params[j]? = some t → args[j]? = some v → Value.okWide Try.prog W .any base t v := hval0
 have hW' := hW
 obtain ⟨p, q, hA0, hV, rfl, hfz, hnd⟩ := hW
 have hA : DataW.TrodAll enc Try.prog W 0 (fun _ => true) true Try.f3.params.toList args.toList ds p := hA0
 rw [Try.params3] at hA hval
 obtain ⟨v0, v1, v2, d0, d1, d2, p0, p1, p2, rfl, rfl, rfl, h0, h1, h2⟩ := trodAll_three hA
 obtain ⟨rfl, rfl⟩ := trodVars_none hV
 simp only [List.append_nil, List.nil_append, List.append_assoc] at hW'
 have k0 := h0
 have hlt0 : ∀ x ∈ p0, x.block < W.heap.size := fun x hx => hW'.lt x (by simp [hx])
 obtain ⟨a0, len0, cap0, rfl⟩ := okWide_slice Try.underlying22 (hval 0 22 v0 rfl rfl)
 obtain ⟨fu0, e0⟩ := h0
 obtain ⟨b0, c0, xs0, hq0, hx0⟩ := open_small Try.underlying22 Try.underlying49 (by kernel_rfl) ⟨rfl, rfl, rfl⟩ ⟨by kernel_rfl, by kernel_rfl, by kernel_rfl⟩ ⟨Try.underlying5, Try.underlying5, Try.underlying5⟩ e0
 cases hq0
 have k1 := h1
 have hlt1 : ∀ x ∈ p1, x.block < W.heap.size := fun x hx => hW'.lt x (by simp [hx])
 obtain ⟨a1, len1, cap1, rfl⟩ := okWide_slice Try.underlying22 (hval 1 22 v1 rfl rfl)
 obtain ⟨fu1, e1⟩ := h1
 obtain ⟨b1, c1, xs1, hq1, hx1⟩ := open_small Try.underlying22 Try.underlying49 (by kernel_rfl) ⟨rfl, rfl, rfl⟩ ⟨by kernel_rfl, by kernel_rfl, by kernel_rfl⟩ ⟨Try.underlying5, Try.underlying5, Try.underlying5⟩ e1
 cases hq1
 have k2 := h2
 have hlt2 : ∀ x ∈ p2, x.block < W.heap.size := fun x hx => hW'.lt x (by simp [hx])
 obtain ⟨a2, len2, cap2, rfl⟩ := okWide_slice Try.underlying22 (hval 2 22 v2 rfl rfl)
 obtain ⟨fu2, e2⟩ := h2
 obtain ⟨b2, c2, xs2, hq2, hx2⟩ := open_small Try.underlying22 Try.underlying49 (by kernel_rfl) ⟨rfl, rfl, rfl⟩ ⟨by kernel_rfl, by kernel_rfl, by kernel_rfl⟩ ⟨Try.underlying5, Try.underlying5, Try.underlying5⟩ e2
 cases hq2
 clear hA0 hval0
 refine (RxnormOrder_ok W _ _ _ _ hx0 _ _ _ _ hx1 _ _ _ _ hx2 ).mono fun e W' ⟨he, hw⟩ => ?_
 subst he
 exact ⟨_, rfl, post_of_below (pa := p0 ++ (p1 ++ (p2))) (pv := []) hW' (fun _ _ _ => trodAll_mk1 (shut_bool Try.underlying4 true)) (fun sp hsp => trodAll_mk3 (stay laid_rxnormOrder (by kernel_rfl) (of_decide_eq_true (by kernel_rfl)) k0 hw.toBelow hlt0 (fun x hx => hsp x (by simp [hx]))) (stay laid_rxnormOrder (by kernel_rfl) (of_decide_eq_true (by kernel_rfl)) k1 hw.toBelow hlt1 (fun x hx => hsp x (by simp [hx]))) (stay laid_rxnormOrder (by kernel_rfl) (of_decide_eq_true (by kernel_rfl)) k2 hw.toBelow hlt2 (fun x hx => hsp x (by simp [hx])))) (fun _ _ => rfl) (by simp) hw.toBelow (ok_one (by kernel_rfl) rfl (okWide_bool_mk Try.underlying4 true))⟩
theorem rxnormOrder_holds : Rows.RxnormOrderSaid :=
 OpenClaim.holds_of_wide 3 Try.f3 rfl rfl rfl rfl rfl rfl rfl ⟨rfl, rfl, rfl, rfl, rfl⟩ rfl rfl rfl rfl rfl (by kernel_rfl) Try.func3 (by kernel_rfl)
  (of_decide_eq_true (by kernel_rfl)) (by unfold Func.isWrapper; rw [if_neg (by decide +kernel)]; exact ⟨rfl, rfl⟩)
  (fun os started H enc _ => lifted_rxnormOrder os started H enc)
end Go.Proofs.Yteenegaadlhjdaa
