/- The counts of plain trees: the law function RxnormCounts returns true for every slice of steps; no condition. -/
import Derived.Test.YteenegaadlhjdaaCt5
import Derived.KernelRfl
import Derived.ProofKit
import Derived.Deep.Slices
import Derived.Carry
import Derived.Test.YteenegaadlhjdaaRows
set_option linter.all false
namespace Go.Proofs.Yteenegaadlhjdaa
open Go.Proofs Go.RowKit
set_option maxRecDepth 20000 in
set_option maxHeartbeats 4000000 in
theorem made_ok (D : Nat → Prop) (w : World) (a : Option Addr) (cap : Nat) (xs : List (Int × Int × Int)) (hxs : SmallV D w (.slice a xs.length cap) xs) :
  Calls Try.prog 7 #[.slice a xs.length cap] w fun e w' => ∃ l', e = .returned (.agg l'.toArray) ∧ NodeL (fun k => w.heap.size ≤ k) w' l' (Nd.made xs) ∧ Ext w w' := by
 have hlen := hxs.len
 have hxt := hxs.take25
 have hlt := hxt.len
 refine Calls.enter (args := [.slice a xs.length cap]) Try.func7 rfl rfl rfl rfl ?_
 refine sq ?_
 refine WL.alloc rfl rfl Ty.zero30 rfl (fun b1 w6 hb2 hE5 hs3 hR4 => ?_)
 refine WL.dn ?_
 refine sq ?_
 refine asg ?_
 refine WL.dn ?_
 refine sq ?_
 refine asg ?_
 refine asg ?_
 refine WL.dn ?_
 refine WC.seqk ?_
 refine sq ?_
 refine mv ?_
 refine mv ?_
 refine WL.len rfl rfl Try.underlying22 rfl ?_
 refine WL.min2 (v := minI xs.length 25) rfl rfl rfl rfl rfl ?_
 refine WL.slice_h (m := (xs.take 25).length) rfl rfl Ty.slice22 rfl rfl (min25 xs) (by omega) ?_
 refine WL.len rfl rfl Try.underlying22 rfl ?_
 refine mv ?_
 refine WL.dn ?_
 refine WC.block ?_
 refine WC.weaken (r' := [(2, pt b1 0), (20, .slice a ((xs.take 25).length) cap), (21, .int .i64 ((xs.take 25).length)), (22, .int .i64 0), (3, .slice none 0 0), (4, .int .i64 1), (5, .int .i64 0)]) (s4 (sr rfl (sr rfl (sr rfl (subReg_nil _))))) ?_
 refine WC.loop (σ := Nat × Value × Nd.M3) (fun s r_ w_ => r_ = [(2, pt b1 0), (20, .slice a ((xs.take 25).length) cap), (21, .int .i64 ((xs.take 25).length)), (22, .int .i64 (s.1 : Int)), (3, s.2.1), (4, .int .i64 s.2.2.u), (5, .int .i64 s.2.2.g)] ∧ Ext w w_ ∧ (s.1 ≤ (xs.take 25).length ∧ w6.heap.size ≤ w_.heap.size ∧ s.2.2 = Nd.madeSt ((xs.take 25).take s.1) ∧ Row w_ b1 (zc 0 0 0 (.slice none 0 0)) 30 ∧ OwnV 30 w6.heap.size (fun k => w6.heap.size ≤ k) w_ s.2.1 s.2.2.pile)) (fun s => (xs.take 25).length - s.1) (0, .slice none 0 0, ⟨[], 1, 0⟩) ⟨rfl, hE5, ⟨Nat.zero_le _, Nat.le_refl _, rfl, hR4, OwnV.nil _ _ _ _⟩⟩ ?_
 rintro ⟨k, v, m⟩ r_ w9 ⟨rfl, hE7, hI8⟩
 have hzhE7 := hE7.size
 dsimp only at hI8
 obtain ⟨hk, hWw, hst, hR2, hO⟩ := hI8
 have hbd := Nd.madeSt_bd ((xs.take 25).take k)
 rw [← hst] at hbd
 obtain ⟨pile, u, gr⟩ := m
 obtain ⟨hb1, hb2, hb3, hb4, hb5, hb6⟩ := hbd
 dsimp only at hst hO hb1 hb2 hb3 hb4 hb5 hb6
 have hO := hO.dom (D' := fun k => w6.heap.size ≤ k ∧ k < w9.heap.size) (fun k h1 h2 _ => ⟨h1, h2⟩)
 have hb7 : pile.length ≤ 25 := by have := hb1; rw [List.length_take, List.length_take] at this; omega
 have hb8 : Nd.sizeL pile ≤ 25 := by have := hb2; rw [List.length_take, List.length_take] at this; omega
 clear hb1 hb2
 obtain ⟨ap, capp, rfl, hnn, hxx⟩ := hO.cases
 have hol := hO.own
 have hcapp := hO.nodes.len
 have hts := hO.nodes.lt
 have hM := hO.mix
 refine WC.weaken (r' := [(2, pt b1 0), (20, .slice a ((xs.take 25).length) cap), (21, .int .i64 ((xs.take 25).length)), (22, .int .i64 (k : Int)), (3, .slice ap pile.length capp), (4, .int .i64 u), (5, .int .i64 gr)]) (s4 (sr rfl (sr rfl (sr rfl (subReg_nil _))))) ?_
 refine sq ?_
 cases hc10 : decide (((k : Int) : Int) < ((xs.take 25).length)) with
 | false =>
  refine WL.lss rfl rfl rfl rfl hc10 ?_
  have hp10 := of_decide_eq_false hc10
  refine WL.dn ?_
  refine WC.seqk ?_
  refine cF ?_
  refine WC.exit (fun a_ ha => ?_)
  refine exit_then ?_
  refine exit_then ?_
  refine exit_here ?_
  refine WC.at ?_ ha
  refine WC.seqk ?_
  refine sq ?_
  refine mv ?_
  refine WL.len rfl rfl Try.underlying24 rfl ?_
  cases hc11 : ((pile.length : Int) == 0) with
  | false =>
   refine WL.eql rfl rfl rfl rfl hc11 ?_
   have hp11 := beq_eq_false_iff_ne.1 hc11
   refine WL.dn ?_
   refine cF ?_
   refine WC.sk ?_
   refine sq ?_
   refine mv ?_
   have hrest := (hts).drop1 (by omega)
   obtain ⟨t12, ht12⟩ : ∃ t, pile[0]? = some t := ⟨_, List.getElem?_eq_getElem (by omega)⟩
   obtain ⟨eb12, el12, hea12, hgb12, hgl12, her12, hn12⟩ := hM.at ht12
   obtain ⟨a12, cap12, rfl, hts12, hlen12⟩ := hn12.op2
   subst hea12
   refine WL.indexAddr (i := 0) rfl rfl Ty.slice24 rfl rfl rfl (by omega) ?_
   refine WL.load_agg (l := tcells t12 (.slice a12 t12.subs.length cap12)) rfl rfl Ty.agg30 rfl her12 ?_
   refine WL.alloc rfl rfl Ty.zero30 rfl (fun b13 w18 hb14 hE17 hs15 hR16 => ?_)
   refine WL.store_box rfl rfl rfl hR16 Ty.agg30 rfl rfl (fun w21 hB20 hR19 => ?_)
   have hzhB20 := hB20.size
   refine WL.dn ?_
   refine WC.seqk ?_
   refine sq ?_
   refine mv ?_
   refine WL.slice_l (m := 1) rfl rfl Ty.slice24 rfl rfl rfl (by omega) ?_
   refine WL.len rfl rfl Try.underlying24 rfl ?_
   refine mv ?_
   refine WL.dn ?_
   refine WC.block ?_
   generalize hA : (if capp = 1 then (some ⟨eb12, 0, none⟩) else Option.map (fun z => Addr.add z (1 * 8)) (some ⟨eb12, 0, none⟩)) = ar at hrest ⊢
   have h22 := (hB20.row (hR2.ext hE17) (by omega))
   have h23 := ((hn12.ext hE17).bu hB20)
   refine WC.weaken (r' := [(2, pt b1 0), (13, pt b13 0), (193, .slice ar (pile.length - 1 : Nat) (capp - 1)), (194, .int .i64 (pile.length - 1 : Nat)), (195, .int .i64 0)]) (s4 (sr rfl (subReg_nil _))) ?_
   refine WC.loop (σ := Nat × List Value) (fun s r_ w_ => r_ = [(2, pt b1 0), (13, pt b13 0), (193, .slice ar (pile.length - 1 : Nat) (capp - 1)), (194, .int .i64 (pile.length - 1 : Nat)), (195, .int .i64 (s.1 : Int))] ∧ Ext w9 w_ ∧ (s.1 ≤ pile.length - 1 ∧ w9.heap.size + 1 ≤ w_.heap.size ∧ Row w_ b1 (zc 0 0 0 (.slice none 0 0)) 30 ∧ Row w_ b13 s.2 30 ∧ NodeL (fun k => w6.heap.size ≤ k ∧ k ≠ b13) w_ s.2 (((pile.drop 1).take s.1).foldl (Nd.joins 4) t12))) (fun s => pile.length - 1 - s.1) (0, (tcells t12 (.slice a12 t12.subs.length cap12))) ⟨rfl, (hB20.onto hE17 (by omega)), ⟨Nat.zero_le _, by omega, h22, hR19, (h23.dom (by intro k h1; (try dsimp only at h1); (repeat' first | (guard_hyp h1 : _ ∨ _; refine Or.elim h1 (fun h1 => ?_) (fun h1 => ?_)) | (guard_hyp h1 : _ ∧ _; have hx := h1.2; replace h1 := h1.1)) <;> first | contradiction | omega | (dsimp only; omega)))⟩⟩ ?_
   rintro ⟨k, l13⟩ r_ w26 ⟨rfl, hE24, hI25⟩
   have hzhE24 := hE24.size
   dsimp only at hI25
   obtain ⟨hk2, hWw2, hR2, hR13, hN⟩ := hI25
   have hN := hN.lt
   obtain ⟨a27, cap27, rfl, hts27, hlen27⟩ := hN.op2
   refine WC.weaken (r' := [(2, pt b1 0), (13, pt b13 0), (193, .slice ar (pile.length - 1 : Nat) (capp - 1)), (194, .int .i64 (pile.length - 1 : Nat)), (195, .int .i64 (k : Int))]) (s4 (sr rfl (subReg_nil _))) ?_
   refine sq ?_
   cases hc28 : decide (((k : Int) : Int) < (pile.length - 1 : Nat)) with
   | false =>
    refine WL.lss rfl rfl rfl rfl hc28 ?_
    have hp28 := of_decide_eq_false hc28
    refine WL.dn ?_
    refine WC.seqk ?_
    refine cF ?_
    refine WC.exit (fun a_ ha => ?_)
    refine exit_then ?_
    refine exit_then ?_
    refine exit_here ?_
    refine WC.at ?_ ha
    refine sq ?_
    refine WL.load_box rfl rfl rfl hR13 Ty.agg30 ?_
    refine WL.store_box rfl rfl rfl hR2 Ty.agg30 rfl rfl (fun w31 hB30 hR29 => ?_)
    have hzhB30 := hB30.size
    refine WL.dn ?_
    refine WC.ret (fun a_ ha => ?_)
    exact bodyPost_cell (l := (tcells (((pile.drop 1).take k).foldl (Nd.joins 4) t12) (.slice a27 (((pile.drop 1).take k).foldl (Nd.joins 4) t12).subs.length cap27))) rfl ha rfl Ty.agg30 hR29 ⟨_, rfl, (by rw [Nd.made_eq hst (by omega), Nd.madeEnd_at ht12]; have hkk : (pile.drop 1).take k = pile.drop 1 := List.take_of_length_le (by rw [List.length_drop]; omega); have hT : ((pile.drop 1).take k).foldl (Nd.joins 4) t12 = (pile.drop 1).foldl (Nd.joins 4) t12 := (by rw [hkk]); rw [← hT]; exact (hN.bu hB30).dom (by intro k h1; (try dsimp only at h1); (repeat' first | (guard_hyp h1 : _ ∨ _; refine Or.elim h1 (fun h1 => ?_) (fun h1 => ?_)) | (guard_hyp h1 : _ ∧ _; have hx := h1.2; replace h1 := h1.1)) <;> first | contradiction | omega | (dsimp only; omega))), (hB30.onto (hE7.trans hE24) (by omega))⟩
   | true =>
    refine WL.lss rfl rfl rfl rfl hc28 ?_
    have hp28 := of_decide_eq_true hc28
    refine WL.dn ?_
    refine WC.seqk ?_
    refine cT ?_
    refine WC.sk ?_
    refine WC.seqk ?_
    refine WC.block ?_
    refine sq ?_
    obtain ⟨t29, ht29⟩ : ∃ t, (pile.drop 1)[k]? = some t := ⟨_, List.getElem?_eq_getElem (by first | omega | (rw [List.length_drop]; omega))⟩
    obtain ⟨eb29, eo29, el29, hea29, hD29, her29, hn29⟩ := (hrest.ext hE24).at ht29
    obtain ⟨a29, cap29, rfl, hts29, hlen29⟩ := hn29.op2
    subst hea29
    refine WL.indexAddr (i := k) rfl rfl Ty.slice24 rfl rfl rfl (by first | omega | (rw [List.length_drop]; omega)) ?_
    refine WL.load_agg (l := tcells t29 (.slice a29 t29.subs.length cap29)) rfl rfl Ty.agg30 rfl her29 ?_
    refine WL.alloc rfl rfl Ty.zero30 rfl (fun b30 w35 hb31 hE34 hs32 hR33 => ?_)
    refine WL.store_box rfl rfl rfl hR33 Ty.agg30 rfl rfl (fun w38 hB37 hR36 => ?_)
    have hzhB37 := hB37.size
    refine WL.dn ?_
    refine WC.region ?_
    have h39 := (hB37.row (hR13.ext hE34) (by omega))
    refine WL.load_box rfl rfl rfl h39 Ty.agg30 ?_
    refine WL.load_box rfl rfl rfl hR36 Ty.agg30 ?_
    have h40 := ((hN.ext hE34).bu hB37)
    have h41 := ((hn29.ext hE34).bu hB37)
    refine WL.call rfl rfl rfl Ty.ent22 (joins_ok _ _ _ 4 _ _ (((pile.drop 1).take k).foldl (Nd.joins 4) t12) t29 h40 h41 (by have h1 := Nd.foldl_size ((pile.drop 1).take k) t12; have h2 := Nd.sizeL_take_le (pile.drop 1) k; have h3 := Nd.sizeL_drop1 ht12; have h4 : ((pile.drop 1).take k).length ≤ pile.length := (by rw [List.length_take, List.length_drop]; omega); omega) (by have h1 := Nd.size_le_sizeL (List.mem_of_getElem? ht29); have h2 := Nd.sizeL_drop1 ht12; omega)) ?_
    rintro _ w44 ⟨l42, rfl, hr42, hE43⟩
    have hzhE43 := hE43.size
    refine ⟨_, rfl, ?_⟩
    have hn42 := hr42.lt
    obtain ⟨a42, cap42, rfl, hts42, hlen42⟩ := hn42.op2
    refine WL.store_box rfl rfl rfl (h39.ext hE43) Ty.agg30 rfl rfl (fun w47 hB46 hR45 => ?_)
    have hzhB46 := hB46.size
    refine WL.dn ?_
    refine WC.region ?_
    refine WL.add (v := (k : Int) + 1) rfl rfl rfl rfl (IntWalk.i64_in _ (by omega)) ?_
    refine mv ?_
    refine WL.nil (fun a_ ha => ?_)
    have h48 := (hB46.row ((hB37.row (hR2.ext hE34) (by omega)).ext hE43) (by omega))
    exact ⟨(k + 1, (tcells (Nd.joins 4 (((pile.drop 1).take k).foldl (Nd.joins 4) t12) t29) (.slice a42 (Nd.joins 4 (((pile.drop 1).take k).foldl (Nd.joins 4) t12) t29).subs.length cap42))), _, ha.weaken (s4 (sr rfl (subReg_nil _))), ⟨rfl, (hB46.onto ((hB37.onto (hE24.trans hE34) (by omega)).trans hE43) (by omega)), ⟨by first | omega | (dsimp only; omega), by omega, h48, hR45, (by have ht := ht29; rw [List.take_add_one, ht, List.foldl_append]; exact (hn42.bu hB46).dom (by intro k h1; (try dsimp only at h1); (repeat' first | (guard_hyp h1 : _ ∨ _; refine Or.elim h1 (fun h1 => ?_) (fun h1 => ?_)) | (guard_hyp h1 : _ ∧ _; have hx := h1.2; replace h1 := h1.1)) <;> first | contradiction | omega | (dsimp only; omega)))⟩⟩, by first | omega | (dsimp only; omega)⟩
  | true =>
   refine WL.eql rfl rfl rfl rfl hc11 ?_
   have hp11 := beq_iff_eq.1 hc11
   refine WL.dn ?_
   refine cT ?_
   refine sq ?_
   refine WL.call rfl rfl rfl Ty.ent20 (class_ok _ ([97]) (by first | decide | exact Nd.lettersS_len _)) ?_
   rintro _ w14 ⟨l12, rfl, hr12, hE13⟩
   have hzhE13 := hE13.size
   refine ⟨_, rfl, ?_⟩
   have hn12 := hr12.lt
   obtain ⟨a12, cap12, rfl, hts12, hlen12⟩ := hn12.op2
   refine WL.store_box rfl rfl rfl (hR2.ext hE13) Ty.agg30 rfl rfl (fun w17 hB16 hR15 => ?_)
   have hzhB16 := hB16.size
   refine WL.dn ?_
   refine WC.ret (fun a_ ha => ?_)
   refine ret_then ?_
   exact bodyPost_cell (l := (tcells (Nd.classS ([97])) (.slice a12 (Nd.classS ([97])).subs.length cap12))) rfl ha rfl Ty.agg30 hR15 ⟨_, rfl, (by rw [Nd.made_eq hst (by omega), Nd.madeEnd_nil (p := pile) (by omega)]; exact (hn12.bu hB16).dom (by intro k h1; (try dsimp only at h1); (repeat' first | (guard_hyp h1 : _ ∨ _; refine Or.elim h1 (fun h1 => ?_) (fun h1 => ?_)) | (guard_hyp h1 : _ ∧ _; have hx := h1.2; replace h1 := h1.1)) <;> first | contradiction | omega | (dsimp only; omega))), (hB16.onto (hE7.trans hE13) (by omega))⟩
 | true =>
  refine WL.lss rfl rfl rfl rfl hc10 ?_
  have hp10 := of_decide_eq_true hc10
  refine WL.dn ?_
  refine WC.seqk ?_
  refine cT ?_
  refine WC.sk ?_
  refine WC.seqk ?_
  refine WC.block ?_
  refine sq ?_
  obtain ⟨x11, hx11⟩ : ∃ x, (xs.take 25)[k]? = some x := ⟨_, List.getElem?_eq_getElem (by omega)⟩
  obtain ⟨eb11, eo11, hea11, her11, hxb11⟩ := (hxt.ext hE7).at hx11
  subst hea11
  refine WL.indexAddr (i := k) rfl rfl Ty.slice22 rfl rfl rfl (by omega) ?_
  refine WL.load_agg (l := cells3 x11) rfl rfl Ty.agg49 rfl her11 ?_
  refine WL.alloc rfl rfl Ty.zero49 rfl (fun b12 w17 hb13 hE16 hs14 hR15 => ?_)
  refine WL.store_box rfl rfl rfl hR15 Ty.agg49 rfl rfl (fun w20 hB19 hR18 => ?_)
  have hzhB19 := hB19.size
  refine WL.dn ?_
  refine sq ?_
  refine mv ?_
  refine WL.len rfl rfl Try.underlying24 rfl ?_
  refine asg ?_
  refine WL.dn ?_
  refine sq ?_
  refine WL.fieldAddr rfl rfl Ty.fld49_0 rfl ?_
  refine WL.load_fld rfl rfl Ty.flat5 rfl hR18 rfl ?_
  refine WL.rem (v := (x11.1.tmod 12)) rfl rfl rfl rfl (by decide) rfl ?_
  refine asg ?_
  refine WL.dn ?_
  refine WC.block ?_
  refine sq ?_
  refine mv ?_
  cases hc21 : decide (((x11.1.tmod 12) : Int) < 4) with
  | false =>
   refine WL.lss rfl rfl rfl rfl hc21 ?_
   have hp21 := of_decide_eq_false hc21
   refine asg ?_
   refine WL.dn ?_
   refine cF ?_
   refine sq ?_
   refine mv ?_
   cases hc22 : (((x11.1.tmod 12) : Int) == 4) with
   | false =>
    refine WL.eql rfl rfl rfl rfl hc22 ?_
    have hp22 := beq_eq_false_iff_ne.1 hc22
    refine asg ?_
    refine WL.dn ?_
    refine cF ?_
    refine sq ?_
    refine mv ?_
    cases hc23 : decide (((x11.1.tmod 12) : Int) < 7) with
    | false =>
     refine WL.lss rfl rfl rfl rfl hc23 ?_
     have hp23 := of_decide_eq_false hc23
     refine mv ?_
     refine ps ?_
     refine ps ?_
     refine pF ?_
     refine asg ?_
     refine WL.dn ?_
     refine cF ?_
     refine sq ?_
     refine mv ?_
     cases hc24 : decide (((x11.1.tmod 12) : Int) < 9) with
     | false =>
      refine WL.lss rfl rfl rfl rfl hc24 ?_
      have hp24 := of_decide_eq_false hc24
      refine mv ?_
      refine ps ?_
      refine ps ?_
      refine pF ?_
      refine asg ?_
      refine WL.dn ?_
      refine cF ?_
      refine sq ?_
      refine mv ?_
      cases hc25 : (((x11.1.tmod 12) : Int) == 9) with
      | false =>
       refine WL.eql rfl rfl rfl rfl hc25 ?_
       have hp25 := beq_eq_false_iff_ne.1 hc25
       refine mv ?_
       refine ps ?_
       refine ps ?_
       refine pF ?_
       refine mv ?_
       refine ps ?_
       refine ps ?_
       refine pF ?_
       refine asg ?_
       refine WL.dn ?_
       refine cF ?_
       refine sq ?_
       refine mv ?_
       cases hc26 : decide ((9 : Int) < (x11.1.tmod 12)) with
       | false =>
        refine WL.gtr rfl rfl rfl rfl hc26 ?_
        have hp26 := of_decide_eq_false hc26
        refine mv ?_
        refine ps ?_
        refine ps ?_
        refine pF ?_
        refine mv ?_
        refine ps ?_
        refine ps ?_
        refine ps ?_
        refine ps ?_
        refine ps ?_
        refine ps ?_
        refine ps ?_
        refine pF ?_
        refine asg ?_
        refine WL.dn ?_
        refine cF ?_
        refine WC.sk ?_
        refine WC.region ?_
        refine WL.add (v := (k : Int) + 1) rfl rfl rfl rfl (IntWalk.i64_in _ (by omega)) ?_
        refine mv ?_
        refine WL.nil (fun a_ ha => ?_)
        have h27 := ((hO.ext hE16).but hB19 (fun h1 => by first | omega | (dsimp only at h1; omega)) (fun hk => by have := (hO.ext hE16).own _ hk; have := hol _ hk; omega))
        have h28 := (hB19.row (hR2.ext hE16) (by omega))
        exact ⟨(k + 1, .slice ap pile.length capp, ⟨pile, u, gr⟩), _, ha.weaken (s4 (sr rfl (sr rfl (sr rfl (subReg_nil _))))), ⟨rfl, (hB19.onto (hE7.trans hE16) (by omega)), ⟨by first | omega | (dsimp only; omega), by omega, (by rw [Nd.madeSt_succ hx11, ← hst]; simp only [Nd.stepM, hc10, hc21, hc22, hc23, hc24, hc25, hc26, Nd.mostM, Nd.empty, Bool.or_true, Bool.true_or, Bool.or_false, Bool.false_or, cond_true, cond_false, Bool.true_and, Bool.false_and, Bool.and_true, Bool.and_false]), h28, (h27.dom (by intro k h1 _ _; (try dsimp only at h1); (repeat' first | (guard_hyp h1 : _ ∨ _; refine Or.elim h1 (fun h1 => ?_) (fun h1 => ?_)) | (guard_hyp h1 : _ ∧ _; have hx := h1.2; replace h1 := h1.1)) <;> first | contradiction | omega | (dsimp only; omega)))⟩⟩, by first | omega | (dsimp only; omega)⟩
       | true =>
        refine WL.gtr rfl rfl rfl rfl hc26 ?_
        have hp26 := of_decide_eq_true hc26
        refine mv ?_
        refine mv ?_
        cases hc27 : decide ((0 : Int) < pile.length) with
        | false =>
         refine WL.gtr rfl rfl rfl rfl hc27 ?_
         have hp27 := of_decide_eq_false hc27
         refine pT ?_
         refine mv ?_
         refine ps ?_
         refine ps ?_
         refine ps ?_
         refine ps ?_
         refine ps ?_
         refine ps ?_
         refine ps ?_
         refine pF ?_
         refine asg ?_
         refine WL.dn ?_
         refine cF ?_
         refine WC.sk ?_
         refine WC.region ?_
         refine WL.add (v := (k : Int) + 1) rfl rfl rfl rfl (IntWalk.i64_in _ (by omega)) ?_
         refine mv ?_
         refine WL.nil (fun a_ ha => ?_)
         have h28 := ((hO.ext hE16).but hB19 (fun h1 => by first | omega | (dsimp only at h1; omega)) (fun hk => by have := (hO.ext hE16).own _ hk; have := hol _ hk; omega))
         have h29 := (hB19.row (hR2.ext hE16) (by omega))
         exact ⟨(k + 1, .slice ap pile.length capp, ⟨pile, u, gr⟩), _, ha.weaken (s4 (sr rfl (sr rfl (sr rfl (subReg_nil _))))), ⟨rfl, (hB19.onto (hE7.trans hE16) (by omega)), ⟨by first | omega | (dsimp only; omega), by omega, (by rw [Nd.madeSt_succ hx11, ← hst]; simp only [Nd.stepM, hc10, hc21, hc22, hc23, hc24, hc25, hc26, hc27, Nd.mostM, Nd.empty, Bool.or_true, Bool.true_or, Bool.or_false, Bool.false_or, cond_true, cond_false, Bool.true_and, Bool.false_and, Bool.and_true, Bool.and_false]), h29, (h28.dom (by intro k h1 _ _; (try dsimp only at h1); (repeat' first | (guard_hyp h1 : _ ∨ _; refine Or.elim h1 (fun h1 => ?_) (fun h1 => ?_)) | (guard_hyp h1 : _ ∧ _; have hx := h1.2; replace h1 := h1.1)) <;> first | contradiction | omega | (dsimp only; omega)))⟩⟩, by first | omega | (dsimp only; omega)⟩
        | true =>
         refine WL.gtr rfl rfl rfl rfl hc27 ?_
         have hp27 := of_decide_eq_true hc27
         refine pT ?_
         refine mv ?_
         refine mv ?_
         refine mv ?_
         refine WL.sub (v := ((pile.length - 1 : Nat) : Int)) rfl rfl rfl rfl (by rw [IntWalk.i64_in _ (by omega)]; omega) ?_
         have h28 := ((hM.ext hE16).but hB19 (by rintro i hi ⟨h1, h2⟩; first | omega | (dsimp only at h1; omega) | ((try dsimp only at h1); (repeat' first | (guard_hyp h1 : _ ∨ _; refine Or.elim h1 (fun h1 => ?_) (fun h1 => ?_)) | (guard_hyp h1 : _ ∧ _; have hx := h1.2; replace h1 := h1.1)) <;> first | contradiction | omega)) (fun hk => by have := (hM.ext hE16).block _ hk; have := hol _ hk; omega))
         obtain ⟨t29, ht29⟩ : ∃ t, pile[(pile.length - 1)]? = some t := ⟨_, List.getElem?_eq_getElem (by omega)⟩
         obtain ⟨eb29, el29, hea29, hgb29, hgl29, her29, hn29⟩ := h28.at ht29
         obtain ⟨a29, cap29, rfl, hts29, hlen29⟩ := hn29.op2
         subst hea29
         refine WL.indexAddr (i := (pile.length - 1)) rfl rfl Ty.slice24 rfl rfl rfl (by omega) ?_
         refine WL.fieldAddr rfl rfl Ty.fld30_0 rfl ?_
         refine WL.load_flat rfl rfl Ty.flat5 rfl (her29 0 _ rfl) ?_
         cases hc30 : ((t29.kind : Int) != 1) with
         | false =>
          refine WL.neq rfl rfl rfl rfl hc30 ?_
          have hp30 := bne_eq_false_iff_eq.1 hc30
          refine pT ?_
          refine asg ?_
          refine WL.dn ?_
          refine cF ?_
          refine WC.sk ?_
          refine WC.region ?_
          refine WL.add (v := (k : Int) + 1) rfl rfl rfl rfl (IntWalk.i64_in _ (by omega)) ?_
          refine mv ?_
          refine WL.nil (fun a_ ha => ?_)
          have h31 := ((hO.ext hE16).but hB19 (fun h1 => by first | omega | (dsimp only at h1; omega)) (fun hk => by have := (hO.ext hE16).own _ hk; have := hol _ hk; omega))
          have h32 := (hB19.row (hR2.ext hE16) (by omega))
          exact ⟨(k + 1, .slice (some ⟨eb29, 0, none⟩) pile.length capp, ⟨pile, u, gr⟩), _, ha.weaken (s4 (sr rfl (sr rfl (sr rfl (subReg_nil _))))), ⟨rfl, (hB19.onto (hE7.trans hE16) (by omega)), ⟨by first | omega | (dsimp only; omega), by omega, (by rw [Nd.madeSt_succ hx11, ← hst]; simp only [Nd.stepM, hc10, hc21, hc22, hc23, hc24, hc25, hc26, hc27, hc30, Nd.mostM, Nd.empty, Nd.top_at ht29, Bool.or_true, Bool.true_or, Bool.or_false, Bool.false_or, cond_true, cond_false, Bool.true_and, Bool.false_and, Bool.and_true, Bool.and_false]), h32, (h31.dom (by intro k h1 _ _; (try dsimp only at h1); (repeat' first | (guard_hyp h1 : _ ∨ _; refine Or.elim h1 (fun h1 => ?_) (fun h1 => ?_)) | (guard_hyp h1 : _ ∧ _; have hx := h1.2; replace h1 := h1.1)) <;> first | contradiction | omega | (dsimp only; omega)))⟩⟩, by first | omega | (dsimp only; omega)⟩
         | true =>
          refine WL.neq rfl rfl rfl rfl hc30 ?_
          have hp30 := bne_iff_ne.1 hc30
          refine pT ?_
          refine asg ?_
          refine WL.dn ?_
          refine cT ?_
          refine WC.seqk ?_
          have h31 := ((hO.ext hE16).but hB19 (fun h1 => by first | omega | (dsimp only at h1; omega)) (fun hk => by have := (hO.ext hE16).own _ hk; have := hol _ hk; omega))
          have h32 := (hB19.row (hR2.ext hE16) (by omega))
          refine WC.weaken (r' := [(2, pt b1 0), (20, .slice (some ⟨eb11, eo11, none⟩) ((xs.take 25).length) cap), (21, .int .i64 ((xs.take 25).length)), (22, .int .i64 (k : Int)), (3, .slice (some ⟨eb29, 0, none⟩) pile.length capp), (4, .int .i64 u), (5, .int .i64 gr), (23, .bool true), (24, pt eb11 (eo11 + k * 3)), (25, .agg #[.int .u8 x11.1, .int .u8 x11.2.1, .int .u8 x11.2.2]), (7, pt b12 0), (26, .slice (some ⟨eb29, 0, none⟩) pile.length capp), (27, .int .i64 pile.length), (8, .int .i64 pile.length), (28, pt b12 0), (29, .int .u8 x11.1), (30, .int .u8 (x11.1.tmod 12)), (9, .int .u8 (x11.1.tmod 12)), (32, .int .u8 (x11.1.tmod 12)), (33, .bool false), (31, .bool false), (42, .int .u8 (x11.1.tmod 12)), (43, .bool false), (41, .bool false), (49, .int .u8 (x11.1.tmod 12)), (50, .bool false), (51, .bool false), (52, undef), (53, undef), (54, .bool false), (48, .bool false), (75, .int .u8 (x11.1.tmod 12)), (76, .bool false), (77, .bool false), (78, undef), (79, undef), (80, .bool false), (74, .bool false), (101, .int .u8 (x11.1.tmod 12)), (102, .bool false), (103, .bool false), (104, undef), (105, undef), (106, .bool false), (107, .bool false), (108, undef), (109, undef), (110, .bool false), (100, .bool false), (124, .int .u8 (x11.1.tmod 12)), (125, .bool true), (126, .bool true), (127, .int .i64 pile.length), (128, .bool true), (129, .bool true), (130, .bool true), (131, .slice (some ⟨eb29, 0, none⟩) pile.length capp), (132, .int .i64 pile.length), (133, .int .i64 ((pile.length - 1 : Nat) : Int)), (134, pt eb29 (0 + (pile.length - 1) * 8)), (135, pt eb29 (0 + (pile.length - 1) * 8 + 0)), (136, .int .u8 t29.kind), (137, .bool true), (138, .bool true), (123, .bool true)]) (s4 (s4 (s4 (s4 (s4 (s4 (s4 (s4 (s4 (s4 (s4 (s4 (s4 (s4 (s4 (s4 (sr rfl (subReg_nil _)))))))))))))))))) ?_
          refine WC.draw 9 [139, 140, 141, 142, 143, 144, 145, 146, 10] [pc (pt b12 1), pc (.int .u8 x11.2.1), pc (.int .u8 (x11.2.1.tmod 3)), pc (.int .i64 (x11.2.1.tmod 3)), pc (pt b12 2), pc (.int .u8 x11.2.2), pc (.int .u8 (x11.2.2.tmod 4)), pc (.int .i64 (x11.2.2.tmod 4)), pc (.int .i64 (x11.2.1.tmod 3))] (by kernel_rfl) (by kernel_rfl) (k4 (k4 ⟨KW_pc _, trivial⟩)) rfl rfl rfl (sc4 ?_ ?_ ?_ ?_ (sc4 ?_ ?_ ?_ ?_ (sc ?_ (StepsOn.nil _)))) ?_
          ·intro σ β w1 hE1 hbi hk
           refine ⟨[], (agree_nil _), ?_⟩
           refine WL.fieldAddr rfl rfl Ty.fld49_1 rfl ?_
           exact dq hbi rfl
          ·intro σ β w1 hE1 hbi hk
           refine ⟨[(139, pt b12 1)], (ak hk 0 (agree_nil _)), ?_⟩
           refine WL.load_fld rfl rfl Ty.flat5 rfl (hR18.ext hE1) rfl ?_
           exact dq hbi rfl
          ·intro σ β w1 hE1 hbi hk
           refine ⟨[(140, .int .u8 x11.2.1)], (ak hk 1 (agree_nil _)), ?_⟩
           refine WL.rem (v := (x11.2.1.tmod 3)) rfl rfl rfl rfl (by decide) rfl ?_
           exact dq hbi rfl
          ·intro σ β w1 hE1 hbi hk
           have hz1 := hE1.size
           refine ⟨[(141, .int .u8 (x11.2.1.tmod 3))], (ak hk 2 (agree_nil _)), ?_⟩
           refine WL.convInt (v := (x11.2.1.tmod 3)) rfl rfl Try.underlying5 Try.underlying3 rfl (by have := Nd.mod_bd (x := x11.2.1) (n := 3) (by omega) (by decide); exact IntWalk.i64_in _ (by omega)) ?_
           exact dq hbi rfl
          ·intro σ β w1 hE1 hbi hk
           refine ⟨[], (agree_nil _), ?_⟩
           refine WL.fieldAddr rfl rfl Ty.fld49_2 rfl ?_
           exact dq hbi rfl
          ·intro σ β w1 hE1 hbi hk
           refine ⟨[(143, pt b12 2)], (ak hk 4 (agree_nil _)), ?_⟩
           refine WL.load_fld rfl rfl Ty.flat5 rfl (hR18.ext hE1) rfl ?_
           exact dq hbi rfl
          ·intro σ β w1 hE1 hbi hk
           refine ⟨[(144, .int .u8 x11.2.2)], (ak hk 5 (agree_nil _)), ?_⟩
           refine WL.rem (v := (x11.2.2.tmod 4)) rfl rfl rfl rfl (by decide) rfl ?_
           exact dq hbi rfl
          ·intro σ β w1 hE1 hbi hk
           have hz1 := hE1.size
           refine ⟨[(145, .int .u8 (x11.2.2.tmod 4))], (ak hk 6 (agree_nil _)), ?_⟩
           refine WL.convInt (v := (x11.2.2.tmod 4)) rfl rfl Try.underlying5 Try.underlying3 rfl (by have := Nd.mod_bd (x := x11.2.2) (n := 4) (by omega) (by decide); exact IntWalk.i64_in _ (by omega)) ?_
           exact dq hbi rfl
          ·intro σ β w1 hE1 hbi hk
           refine ⟨[(142, .int .i64 (x11.2.1.tmod 3))], (ak hk 3 (agree_nil _)), ?_⟩
           refine asg ?_
           exact dq hbi rfl
          intro σ β w33 hE33 hbi33 hk
          have hz33 := hE33.size
          have hbi := hbi33
          refine WL.know [(146, .int .i64 (x11.2.2.tmod 4)), (10, .int .i64 (x11.2.1.tmod 3))] (aj hk 7 (aj hk 8 (agree_nil _))) ?_
          refine asg ?_
          refine WL.dn ?_
          refine WC.seqk ?_
          refine sq ?_
          refine mv ?_
          refine mv ?_
          cases hc36 : decide (((x11.2.2.tmod 4) : Int) < (x11.2.1.tmod 3)) with
          | false =>
           refine WL.lss rfl rfl rfl rfl hc36 ?_
           have hp36 := of_decide_eq_false hc36
           refine mv ?_
           refine mv ?_
           cases hc37 : (((x11.2.2.tmod 4) : Int) == 0) with
           | false =>
            refine WL.eql rfl rfl rfl rfl hc37 ?_
            have hp37 := beq_eq_false_iff_ne.1 hc37
            refine pF ?_
            refine mv ?_
            refine mv ?_
            cases hc38 : (((x11.2.1.tmod 3) : Int) == 1) with
            | false =>
             refine WL.eql rfl rfl rfl rfl hc38 ?_
             have hp38 := beq_eq_false_iff_ne.1 hc38
             refine mv ?_
             refine ps ?_
             refine ps ?_
             refine pF ?_
             refine pF ?_
             refine WL.dn ?_
             refine cF ?_
             refine WC.sk ?_
             refine sq ?_
             refine mv ?_
             refine mv ?_
             refine WL.max3 (v := Nd.max3 (x11.2.1.tmod 3) (x11.2.2.tmod 4) 1) rfl rfl rfl rfl rfl rfl ?_
             refine asg ?_
             refine WL.dn ?_
             refine sq ?_
             refine mv ?_
             refine mv ?_
             refine WL.mul (v := u * (Nd.max3 (x11.2.1.tmod 3) (x11.2.2.tmod 4) 1)) rfl rfl rfl rfl (IntWalk.i64_in _ (by have h1 := Nd.mod_bd (x := x11.2.1) (n := 3) (by omega) (by decide); have h2 := Nd.mod_bd (x := x11.2.2) (n := 4) (by omega) (by decide); have := Nd.mul_bd hb3 hb4 (Nd.max3_bd (a := x11.2.1.tmod 3) (b := x11.2.2.tmod 4) (by omega) (by omega)); omega)) ?_
             cases hc39 : decide (((u * (Nd.max3 (x11.2.1.tmod 3) (x11.2.2.tmod 4) 1)) : Int) ≤ 16) with
             | false =>
              refine WL.leq rfl rfl rfl rfl hc39 ?_
              have hp39 := of_decide_eq_false hc39
              refine WL.dn ?_
              refine cF ?_
              refine WC.sk ?_
              refine WC.region ?_
              refine WL.add (v := (k : Int) + 1) rfl rfl rfl rfl (IntWalk.i64_in _ (by omega)) ?_
              refine mv ?_
              refine WL.nil (fun a_ ha => ?_)
              exact ⟨(k + 1, .slice (some ⟨eb29, 0, none⟩) pile.length capp, ⟨pile, u, gr⟩), _, ha.weaken (s4 (sr rfl (sr rfl (sr rfl (subReg_nil _))))), ⟨rfl, ((hB19.onto (hE7.trans hE16) (by omega)).trans hE33), ⟨by first | omega | (dsimp only; omega), by omega, (by rw [Nd.madeSt_succ hx11, ← hst]; simp only [Nd.stepM, hc10, hc21, hc22, hc23, hc24, hc25, hc26, hc27, hc30, hc36, hc37, hc38, hc39, Nd.mostM, Nd.empty, Nd.top_at ht29, Bool.or_true, Bool.true_or, Bool.or_false, Bool.false_or, cond_true, cond_false, Bool.true_and, Bool.false_and, Bool.and_true, Bool.and_false]), (h32.ext hE33), ((h31.ext hE33).dom (by intro k h1 _ _; (try dsimp only at h1); (repeat' first | (guard_hyp h1 : _ ∨ _; refine Or.elim h1 (fun h1 => ?_) (fun h1 => ?_)) | (guard_hyp h1 : _ ∧ _; have hx := h1.2; replace h1 := h1.1)) <;> first | contradiction | omega | (dsimp only; omega)))⟩⟩, by first | omega | (dsimp only; omega)⟩
             | true =>
              refine WL.leq rfl rfl rfl rfl hc39 ?_
              have hp39 := of_decide_eq_true hc39
              refine WL.dn ?_
              refine cT ?_
              refine sq ?_
              refine mv ?_
              refine mv ?_
              refine WL.mul (v := u * (Nd.max3 (x11.2.1.tmod 3) (x11.2.2.tmod 4) 1)) rfl rfl rfl rfl (IntWalk.i64_in _ (by have h1 := Nd.mod_bd (x := x11.2.1) (n := 3) (by omega) (by decide); have h2 := Nd.mod_bd (x := x11.2.2) (n := 4) (by omega) (by decide); have := Nd.mul_bd hb3 hb4 (Nd.max3_bd (a := x11.2.1.tmod 3) (b := x11.2.2.tmod 4) (by omega) (by omega)); omega)) ?_
              refine asg ?_
              refine WL.dn ?_
              refine WC.region ?_
              refine mv ?_
              refine mv ?_
              refine WL.sub (v := ((pile.length - 1 : Nat) : Int)) rfl rfl rfl rfl (by rw [IntWalk.i64_in _ (by omega)]; omega) ?_
              refine mv ?_
              refine mv ?_
              refine WL.sub (v := ((pile.length - 1 : Nat) : Int)) rfl rfl rfl rfl (by rw [IntWalk.i64_in _ (by omega)]; omega) ?_
              refine WL.indexAddr (i := (pile.length - 1)) rfl rfl Ty.slice24 rfl rfl rfl (by omega) ?_
              refine WL.load_agg (l := tcells t29 (.slice a29 t29.subs.length cap29)) rfl rfl Ty.agg30 rfl (her29.ext hE33) ?_
              refine mv ?_
              refine mv ?_
              refine WL.call rfl rfl rfl Ty.ent24 (rep_ok _ _ _ t29 (x11.2.1.tmod 3) (x11.2.2.tmod 4) (hn29.ext hE33)) ?_
              rintro _ w42 ⟨l40, rfl, hr40, hE41⟩
              have hzhE41 := hE41.size
              refine ⟨_, rfl, ?_⟩
              have hn40 := hr40.lt
              obtain ⟨a40, cap40, rfl, hts40, hlen40⟩ := hn40.op2
              refine WL.indexAddr (i := (pile.length - 1)) rfl rfl Ty.slice24 rfl rfl rfl (by omega) ?_
              have h45 := ((h28.ext hE33).ext hE41)
              refine WL.storeV (i := (pile.length - 1)) (T := (Nd.mk 5 Nd.zero (x11.2.1.tmod 3) (x11.2.2.tmod 4) [t29])) rfl Ty.agg30 rfl rfl h45 (by omega) hn40 (by first | (rintro k ⟨h1, h2⟩ h3; first | omega | (dsimp only at h1; omega)) | (intro k h1 h3; (try dsimp only at h1); (repeat' first | (guard_hyp h1 : _ ∨ _; refine Or.elim h1 (fun h1 => ?_) (fun h1 => ?_)) | (guard_hyp h1 : _ ∧ _; have hx := h1.2; replace h1 := h1.1)) <;> first | contradiction | omega)) (fun w46 hB44 hM43 => ?_)
              have hzhB44 := hB44.size
              refine WL.dn ?_
              refine WC.region ?_
              refine WL.add (v := (k : Int) + 1) rfl rfl rfl rfl (IntWalk.i64_in _ (by omega)) ?_
              refine mv ?_
              refine WL.nil (fun a_ ha => ?_)
              have h47 := (hB44.row ((h32.ext hE33).ext hE41) (by omega))
              exact ⟨(k + 1, .slice (some ⟨eb29, 0, none⟩) pile.length capp, ⟨(pile.set (pile.length - 1) (Nd.mk 5 Nd.zero (x11.2.1.tmod 3) (x11.2.2.tmod 4) [t29])), u * (Nd.max3 (x11.2.1.tmod 3) (x11.2.2.tmod 4) 1), gr⟩), _, ha.weaken (s4 (sr rfl (sr rfl (sr rfl (subReg_nil _))))), ⟨rfl, (hB44.onto (((hB19.onto (hE7.trans hE16) (by omega)).trans hE33).trans hE41) (by omega)), ⟨by first | omega | (dsimp only; omega), by omega, (by rw [Nd.madeSt_succ hx11, ← hst]; simp only [Nd.stepM, hc10, hc21, hc22, hc23, hc24, hc25, hc26, hc27, hc30, hc36, hc37, hc38, hc39, Nd.mostM, Nd.empty, Nd.top_at ht29, Bool.or_true, Bool.true_or, Bool.or_false, Bool.false_or, cond_true, cond_false, Bool.true_and, Bool.false_and, Bool.and_true, Bool.and_false]), h47, ((hM43).own (by rintro i b hi h1 h2 h3; (try dsimp only at h1); omega))⟩⟩, by first | omega | (dsimp only; omega)⟩
            | true =>
             refine WL.eql rfl rfl rfl rfl hc38 ?_
             have hp38 := beq_iff_eq.1 hc38
             refine mv ?_
             refine mv ?_
             cases hc39 : (((x11.2.2.tmod 4) : Int) == 1) with
             | false =>
              refine WL.eql rfl rfl rfl rfl hc39 ?_
              have hp39 := beq_eq_false_iff_ne.1 hc39
              refine pT ?_
              refine pF ?_
              refine WL.dn ?_
              refine cF ?_
              refine WC.sk ?_
              refine sq ?_
              refine mv ?_
              refine mv ?_
              refine WL.max3 (v := Nd.max3 (x11.2.1.tmod 3) (x11.2.2.tmod 4) 1) rfl rfl rfl rfl rfl rfl ?_
              refine asg ?_
              refine WL.dn ?_
              refine sq ?_
              refine mv ?_
              refine mv ?_
              refine WL.mul (v := u * (Nd.max3 (x11.2.1.tmod 3) (x11.2.2.tmod 4) 1)) rfl rfl rfl rfl (IntWalk.i64_in _ (by have h1 := Nd.mod_bd (x := x11.2.1) (n := 3) (by omega) (by decide); have h2 := Nd.mod_bd (x := x11.2.2) (n := 4) (by omega) (by decide); have := Nd.mul_bd hb3 hb4 (Nd.max3_bd (a := x11.2.1.tmod 3) (b := x11.2.2.tmod 4) (by omega) (by omega)); omega)) ?_
              cases hc40 : decide (((u * (Nd.max3 (x11.2.1.tmod 3) (x11.2.2.tmod 4) 1)) : Int) ≤ 16) with
              | false =>
               refine WL.leq rfl rfl rfl rfl hc40 ?_
               have hp40 := of_decide_eq_false hc40
               refine WL.dn ?_
               refine cF ?_
               refine WC.sk ?_
               refine WC.region ?_
               refine WL.add (v := (k : Int) + 1) rfl rfl rfl rfl (IntWalk.i64_in _ (by omega)) ?_
               refine mv ?_
               refine WL.nil (fun a_ ha => ?_)
               exact ⟨(k + 1, .slice (some ⟨eb29, 0, none⟩) pile.length capp, ⟨pile, u, gr⟩), _, ha.weaken (s4 (sr rfl (sr rfl (sr rfl (subReg_nil _))))), ⟨rfl, ((hB19.onto (hE7.trans hE16) (by omega)).trans hE33), ⟨by first | omega | (dsimp only; omega), by omega, (by rw [Nd.madeSt_succ hx11, ← hst]; simp only [Nd.stepM, hc10, hc21, hc22, hc23, hc24, hc25, hc26, hc27, hc30, hc36, hc37, hc38, hc39, hc40, Nd.mostM, Nd.empty, Nd.top_at ht29, Bool.or_true, Bool.true_or, Bool.or_false, Bool.false_or, cond_true, cond_false, Bool.true_and, Bool.false_and, Bool.and_true, Bool.and_false]), (h32.ext hE33), ((h31.ext hE33).dom (by intro k h1 _ _; (try dsimp only at h1); (repeat' first | (guard_hyp h1 : _ ∨ _; refine Or.elim h1 (fun h1 => ?_) (fun h1 => ?_)) | (guard_hyp h1 : _ ∧ _; have hx := h1.2; replace h1 := h1.1)) <;> first | contradiction | omega | (dsimp only; omega)))⟩⟩, by first | omega | (dsimp only; omega)⟩
              | true =>
               refine WL.leq rfl rfl rfl rfl hc40 ?_
               have hp40 := of_decide_eq_true hc40
               refine WL.dn ?_
               refine cT ?_
               refine sq ?_
               refine mv ?_
               refine mv ?_
               refine WL.mul (v := u * (Nd.max3 (x11.2.1.tmod 3) (x11.2.2.tmod 4) 1)) rfl rfl rfl rfl (IntWalk.i64_in _ (by have h1 := Nd.mod_bd (x := x11.2.1) (n := 3) (by omega) (by decide); have h2 := Nd.mod_bd (x := x11.2.2) (n := 4) (by omega) (by decide); have := Nd.mul_bd hb3 hb4 (Nd.max3_bd (a := x11.2.1.tmod 3) (b := x11.2.2.tmod 4) (by omega) (by omega)); omega)) ?_
               refine asg ?_
               refine WL.dn ?_
               refine WC.region ?_
               refine mv ?_
               refine mv ?_
               refine WL.sub (v := ((pile.length - 1 : Nat) : Int)) rfl rfl rfl rfl (by rw [IntWalk.i64_in _ (by omega)]; omega) ?_
               refine mv ?_
               refine mv ?_
               refine WL.sub (v := ((pile.length - 1 : Nat) : Int)) rfl rfl rfl rfl (by rw [IntWalk.i64_in _ (by omega)]; omega) ?_
               refine WL.indexAddr (i := (pile.length - 1)) rfl rfl Ty.slice24 rfl rfl rfl (by omega) ?_
               refine WL.load_agg (l := tcells t29 (.slice a29 t29.subs.length cap29)) rfl rfl Ty.agg30 rfl (her29.ext hE33) ?_
               refine mv ?_
               refine mv ?_
               refine WL.call rfl rfl rfl Ty.ent24 (rep_ok _ _ _ t29 (x11.2.1.tmod 3) (x11.2.2.tmod 4) (hn29.ext hE33)) ?_
               rintro _ w43 ⟨l41, rfl, hr41, hE42⟩
               have hzhE42 := hE42.size
               refine ⟨_, rfl, ?_⟩
               have hn41 := hr41.lt
               obtain ⟨a41, cap41, rfl, hts41, hlen41⟩ := hn41.op2
               refine WL.indexAddr (i := (pile.length - 1)) rfl rfl Ty.slice24 rfl rfl rfl (by omega) ?_
               have h46 := ((h28.ext hE33).ext hE42)
               refine WL.storeV (i := (pile.length - 1)) (T := (Nd.mk 5 Nd.zero (x11.2.1.tmod 3) (x11.2.2.tmod 4) [t29])) rfl Ty.agg30 rfl rfl h46 (by omega) hn41 (by first | (rintro k ⟨h1, h2⟩ h3; first | omega | (dsimp only at h1; omega)) | (intro k h1 h3; (try dsimp only at h1); (repeat' first | (guard_hyp h1 : _ ∨ _; refine Or.elim h1 (fun h1 => ?_) (fun h1 => ?_)) | (guard_hyp h1 : _ ∧ _; have hx := h1.2; replace h1 := h1.1)) <;> first | contradiction | omega)) (fun w47 hB45 hM44 => ?_)
               have hzhB45 := hB45.size
               refine WL.dn ?_
               refine WC.region ?_
               refine WL.add (v := (k : Int) + 1) rfl rfl rfl rfl (IntWalk.i64_in _ (by omega)) ?_
               refine mv ?_
               refine WL.nil (fun a_ ha => ?_)
               have h48 := (hB45.row ((h32.ext hE33).ext hE42) (by omega))
               exact ⟨(k + 1, .slice (some ⟨eb29, 0, none⟩) pile.length capp, ⟨(pile.set (pile.length - 1) (Nd.mk 5 Nd.zero (x11.2.1.tmod 3) (x11.2.2.tmod 4) [t29])), u * (Nd.max3 (x11.2.1.tmod 3) (x11.2.2.tmod 4) 1), gr⟩), _, ha.weaken (s4 (sr rfl (sr rfl (sr rfl (subReg_nil _))))), ⟨rfl, (hB45.onto (((hB19.onto (hE7.trans hE16) (by omega)).trans hE33).trans hE42) (by omega)), ⟨by first | omega | (dsimp only; omega), by omega, (by rw [Nd.madeSt_succ hx11, ← hst]; simp only [Nd.stepM, hc10, hc21, hc22, hc23, hc24, hc25, hc26, hc27, hc30, hc36, hc37, hc38, hc39, hc40, Nd.mostM, Nd.empty, Nd.top_at ht29, Bool.or_true, Bool.true_or, Bool.or_false, Bool.false_or, cond_true, cond_false, Bool.true_and, Bool.false_and, Bool.and_true, Bool.and_false]), h48, ((hM44).own (by rintro i b hi h1 h2 h3; (try dsimp only at h1); omega))⟩⟩, by first | omega | (dsimp only; omega)⟩
             | true =>
              refine WL.eql rfl rfl rfl rfl hc39 ?_
              have hp39 := beq_iff_eq.1 hc39
              refine pT ?_
              refine pF ?_
              refine WL.dn ?_
              refine cT ?_
              refine WC.region ?_
              refine asg ?_
              refine WL.dn ?_
              refine sq ?_
              refine mv ?_
              refine mv ?_
              refine WL.max3 (v := Nd.max3 (x11.2.1.tmod 3) (-1) 1) rfl rfl rfl rfl rfl rfl ?_
              refine asg ?_
              refine WL.dn ?_
              refine sq ?_
              refine mv ?_
              refine mv ?_
              refine WL.mul (v := u * (Nd.max3 (x11.2.1.tmod 3) (-1) 1)) rfl rfl rfl rfl (IntWalk.i64_in _ (by have h1 := Nd.mod_bd (x := x11.2.1) (n := 3) (by omega) (by decide); have h2 := Nd.mod_bd (x := x11.2.2) (n := 4) (by omega) (by decide); have := Nd.mul_bd hb3 hb4 (Nd.max3_bd (a := x11.2.1.tmod 3) (b := -1) (by omega) (by omega)); omega)) ?_
              cases hc40 : decide (((u * (Nd.max3 (x11.2.1.tmod 3) (-1) 1)) : Int) ≤ 16) with
              | false =>
               refine WL.leq rfl rfl rfl rfl hc40 ?_
               have hp40 := of_decide_eq_false hc40
               refine WL.dn ?_
               refine cF ?_
               refine WC.sk ?_
               refine WC.region ?_
               refine WL.add (v := (k : Int) + 1) rfl rfl rfl rfl (IntWalk.i64_in _ (by omega)) ?_
               refine mv ?_
               refine WL.nil (fun a_ ha => ?_)
               exact ⟨(k + 1, .slice (some ⟨eb29, 0, none⟩) pile.length capp, ⟨pile, u, gr⟩), _, ha.weaken (s4 (sr rfl (sr rfl (sr rfl (subReg_nil _))))), ⟨rfl, ((hB19.onto (hE7.trans hE16) (by omega)).trans hE33), ⟨by first | omega | (dsimp only; omega), by omega, (by rw [Nd.madeSt_succ hx11, ← hst]; simp only [Nd.stepM, hc10, hc21, hc22, hc23, hc24, hc25, hc26, hc27, hc30, hc36, hc37, hc38, hc39, hc40, Nd.mostM, Nd.empty, Nd.top_at ht29, Bool.or_true, Bool.true_or, Bool.or_false, Bool.false_or, cond_true, cond_false, Bool.true_and, Bool.false_and, Bool.and_true, Bool.and_false]), (h32.ext hE33), ((h31.ext hE33).dom (by intro k h1 _ _; (try dsimp only at h1); (repeat' first | (guard_hyp h1 : _ ∨ _; refine Or.elim h1 (fun h1 => ?_) (fun h1 => ?_)) | (guard_hyp h1 : _ ∧ _; have hx := h1.2; replace h1 := h1.1)) <;> first | contradiction | omega | (dsimp only; omega)))⟩⟩, by first | omega | (dsimp only; omega)⟩
              | true =>
               refine WL.leq rfl rfl rfl rfl hc40 ?_
               have hp40 := of_decide_eq_true hc40
               refine WL.dn ?_
               refine cT ?_
               refine sq ?_
               refine mv ?_
               refine mv ?_
               refine WL.mul (v := u * (Nd.max3 (x11.2.1.tmod 3) (-1) 1)) rfl rfl rfl rfl (IntWalk.i64_in _ (by have h1 := Nd.mod_bd (x := x11.2.1) (n := 3) (by omega) (by decide); have h2 := Nd.mod_bd (x := x11.2.2) (n := 4) (by omega) (by decide); have := Nd.mul_bd hb3 hb4 (Nd.max3_bd (a := x11.2.1.tmod 3) (b := -1) (by omega) (by omega)); omega)) ?_
               refine asg ?_
               refine WL.dn ?_
               refine WC.region ?_
               refine mv ?_
               refine mv ?_
               refine WL.sub (v := ((pile.length - 1 : Nat) : Int)) rfl rfl rfl rfl (by rw [IntWalk.i64_in _ (by omega)]; omega) ?_
               refine mv ?_
               refine mv ?_
               refine WL.sub (v := ((pile.length - 1 : Nat) : Int)) rfl rfl rfl rfl (by rw [IntWalk.i64_in _ (by omega)]; omega) ?_
               refine WL.indexAddr (i := (pile.length - 1)) rfl rfl Ty.slice24 rfl rfl rfl (by omega) ?_
               refine WL.load_agg (l := tcells t29 (.slice a29 t29.subs.length cap29)) rfl rfl Ty.agg30 rfl (her29.ext hE33) ?_
               refine mv ?_
               refine mv ?_
               refine WL.call rfl rfl rfl Ty.ent24 (rep_ok _ _ _ t29 (x11.2.1.tmod 3) (-1) (hn29.ext hE33)) ?_
               rintro _ w43 ⟨l41, rfl, hr41, hE42⟩
               have hzhE42 := hE42.size
               refine ⟨_, rfl, ?_⟩
               have hn41 := hr41.lt
               obtain ⟨a41, cap41, rfl, hts41, hlen41⟩ := hn41.op2
               refine WL.indexAddr (i := (pile.length - 1)) rfl rfl Ty.slice24 rfl rfl rfl (by omega) ?_
               have h46 := ((h28.ext hE33).ext hE42)
               refine WL.storeV (i := (pile.length - 1)) (T := (Nd.mk 5 Nd.zero (x11.2.1.tmod 3) (-1) [t29])) rfl Ty.agg30 rfl rfl h46 (by omega) hn41 (by first | (rintro k ⟨h1, h2⟩ h3; first | omega | (dsimp only at h1; omega)) | (intro k h1 h3; (try dsimp only at h1); (repeat' first | (guard_hyp h1 : _ ∨ _; refine Or.elim h1 (fun h1 => ?_) (fun h1 => ?_)) | (guard_hyp h1 : _ ∧ _; have hx := h1.2; replace h1 := h1.1)) <;> first | contradiction | omega)) (fun w47 hB45 hM44 => ?_)
               have hzhB45 := hB45.size
               refine WL.dn ?_
               refine WC.region ?_
               refine WL.add (v := (k : Int) + 1) rfl rfl rfl rfl (IntWalk.i64_in _ (by omega)) ?_
               refine mv ?_
               refine WL.nil (fun a_ ha => ?_)
               have h48 := (hB45.row ((h32.ext hE33).ext hE42) (by omega))
               exact ⟨(k + 1, .slice (some ⟨eb29, 0, none⟩) pile.length capp, ⟨(pile.set (pile.length - 1) (Nd.mk 5 Nd.zero (x11.2.1.tmod 3) (-1) [t29])), u * (Nd.max3 (x11.2.1.tmod 3) (-1) 1), gr⟩), _, ha.weaken (s4 (sr rfl (sr rfl (sr rfl (subReg_nil _))))), ⟨rfl, (hB45.onto (((hB19.onto (hE7.trans hE16) (by omega)).trans hE33).trans hE42) (by omega)), ⟨by first | omega | (dsimp only; omega), by omega, (by rw [Nd.madeSt_succ hx11, ← hst]; simp only [Nd.stepM, hc10, hc21, hc22, hc23, hc24, hc25, hc26, hc27, hc30, hc36, hc37, hc38, hc39, hc40, Nd.mostM, Nd.empty, Nd.top_at ht29, Bool.or_true, Bool.true_or, Bool.or_false, Bool.false_or, cond_true, cond_false, Bool.true_and, Bool.false_and, Bool.and_true, Bool.and_false]), h48, ((hM44).own (by rintro i b hi h1 h2 h3; (try dsimp only at h1); omega))⟩⟩, by first | omega | (dsimp only; omega)⟩
           | true =>
            refine WL.eql rfl rfl rfl rfl hc37 ?_
            have hp37 := beq_iff_eq.1 hc37
            refine pF ?_
            refine mv ?_
            refine ps ?_
            refine ps ?_
            refine ps ?_
            refine ps ?_
            refine ps ?_
            refine ps ?_
            refine pT ?_
            refine WL.dn ?_
            refine cT ?_
            refine WC.region ?_
            refine asg ?_
            refine WL.dn ?_
            refine sq ?_
            refine mv ?_
            refine mv ?_
            refine WL.max3 (v := Nd.max3 (x11.2.1.tmod 3) (-1) 1) rfl rfl rfl rfl rfl rfl ?_
            refine asg ?_
            refine WL.dn ?_
            refine sq ?_
            refine mv ?_
            refine mv ?_
            refine WL.mul (v := u * (Nd.max3 (x11.2.1.tmod 3) (-1) 1)) rfl rfl rfl rfl (IntWalk.i64_in _ (by have h1 := Nd.mod_bd (x := x11.2.1) (n := 3) (by omega) (by decide); have h2 := Nd.mod_bd (x := x11.2.2) (n := 4) (by omega) (by decide); have := Nd.mul_bd hb3 hb4 (Nd.max3_bd (a := x11.2.1.tmod 3) (b := -1) (by omega) (by omega)); omega)) ?_
            cases hc38 : decide (((u * (Nd.max3 (x11.2.1.tmod 3) (-1) 1)) : Int) ≤ 16) with
            | false =>
             refine WL.leq rfl rfl rfl rfl hc38 ?_
             have hp38 := of_decide_eq_false hc38
             refine WL.dn ?_
             refine cF ?_
             refine WC.sk ?_
             refine WC.region ?_
             refine WL.add (v := (k : Int) + 1) rfl rfl rfl rfl (IntWalk.i64_in _ (by omega)) ?_
             refine mv ?_
             refine WL.nil (fun a_ ha => ?_)
             exact ⟨(k + 1, .slice (some ⟨eb29, 0, none⟩) pile.length capp, ⟨pile, u, gr⟩), _, ha.weaken (s4 (sr rfl (sr rfl (sr rfl (subReg_nil _))))), ⟨rfl, ((hB19.onto (hE7.trans hE16) (by omega)).trans hE33), ⟨by first | omega | (dsimp only; omega), by omega, (by rw [Nd.madeSt_succ hx11, ← hst]; simp only [Nd.stepM, hc10, hc21, hc22, hc23, hc24, hc25, hc26, hc27, hc30, hc36, hc37, hc38, Nd.mostM, Nd.empty, Nd.top_at ht29, Bool.or_true, Bool.true_or, Bool.or_false, Bool.false_or, cond_true, cond_false, Bool.true_and, Bool.false_and, Bool.and_true, Bool.and_false]), (h32.ext hE33), ((h31.ext hE33).dom (by intro k h1 _ _; (try dsimp only at h1); (repeat' first | (guard_hyp h1 : _ ∨ _; refine Or.elim h1 (fun h1 => ?_) (fun h1 => ?_)) | (guard_hyp h1 : _ ∧ _; have hx := h1.2; replace h1 := h1.1)) <;> first | contradiction | omega | (dsimp only; omega)))⟩⟩, by first | omega | (dsimp only; omega)⟩
            | true =>
             refine WL.leq rfl rfl rfl rfl hc38 ?_
             have hp38 := of_decide_eq_true hc38
             refine WL.dn ?_
             refine cT ?_
             refine sq ?_
             refine mv ?_
             refine mv ?_
             refine WL.mul (v := u * (Nd.max3 (x11.2.1.tmod 3) (-1) 1)) rfl rfl rfl rfl (IntWalk.i64_in _ (by have h1 := Nd.mod_bd (x := x11.2.1) (n := 3) (by omega) (by decide); have h2 := Nd.mod_bd (x := x11.2.2) (n := 4) (by omega) (by decide); have := Nd.mul_bd hb3 hb4 (Nd.max3_bd (a := x11.2.1.tmod 3) (b := -1) (by omega) (by omega)); omega)) ?_
             refine asg ?_
             refine WL.dn ?_
             refine WC.region ?_
             refine mv ?_
             refine mv ?_
             refine WL.sub (v := ((pile.length - 1 : Nat) : Int)) rfl rfl rfl rfl (by rw [IntWalk.i64_in _ (by omega)]; omega) ?_
             refine mv ?_
             refine mv ?_
             refine WL.sub (v := ((pile.length - 1 : Nat) : Int)) rfl rfl rfl rfl (by rw [IntWalk.i64_in _ (by omega)]; omega) ?_
             refine WL.indexAddr (i := (pile.length - 1)) rfl rfl Ty.slice24 rfl rfl rfl (by omega) ?_
             refine WL.load_agg (l := tcells t29 (.slice a29 t29.subs.length cap29)) rfl rfl Ty.agg30 rfl (her29.ext hE33) ?_
             refine mv ?_
             refine mv ?_
             refine WL.call rfl rfl rfl Ty.ent24 (rep_ok _ _ _ t29 (x11.2.1.tmod 3) (-1) (hn29.ext hE33)) ?_
             rintro _ w41 ⟨l39, rfl, hr39, hE40⟩
             have hzhE40 := hE40.size
             refine ⟨_, rfl, ?_⟩
             have hn39 := hr39.lt
             obtain ⟨a39, cap39, rfl, hts39, hlen39⟩ := hn39.op2
             refine WL.indexAddr (i := (pile.length - 1)) rfl rfl Ty.slice24 rfl rfl rfl (by omega) ?_
             have h44 := ((h28.ext hE33).ext hE40)
             refine WL.storeV (i := (pile.length - 1)) (T := (Nd.mk 5 Nd.zero (x11.2.1.tmod 3) (-1) [t29])) rfl Ty.agg30 rfl rfl h44 (by omega) hn39 (by first | (rintro k ⟨h1, h2⟩ h3; first | omega | (dsimp only at h1; omega)) | (intro k h1 h3; (try dsimp only at h1); (repeat' first | (guard_hyp h1 : _ ∨ _; refine Or.elim h1 (fun h1 => ?_) (fun h1 => ?_)) | (guard_hyp h1 : _ ∧ _; have hx := h1.2; replace h1 := h1.1)) <;> first | contradiction | omega)) (fun w45 hB43 hM42 => ?_)
             have hzhB43 := hB43.size
             refine WL.dn ?_
             refine WC.region ?_
             refine WL.add (v := (k : Int) + 1) rfl rfl rfl rfl (IntWalk.i64_in _ (by omega)) ?_
             refine mv ?_
             refine WL.nil (fun a_ ha => ?_)
             have h46 := (hB43.row ((h32.ext hE33).ext hE40) (by omega))
             exact ⟨(k + 1, .slice (some ⟨eb29, 0, none⟩) pile.length capp, ⟨(pile.set (pile.length - 1) (Nd.mk 5 Nd.zero (x11.2.1.tmod 3) (-1) [t29])), u * (Nd.max3 (x11.2.1.tmod 3) (-1) 1), gr⟩), _, ha.weaken (s4 (sr rfl (sr rfl (sr rfl (subReg_nil _))))), ⟨rfl, (hB43.onto (((hB19.onto (hE7.trans hE16) (by omega)).trans hE33).trans hE40) (by omega)), ⟨by first | omega | (dsimp only; omega), by omega, (by rw [Nd.madeSt_succ hx11, ← hst]; simp only [Nd.stepM, hc10, hc21, hc22, hc23, hc24, hc25, hc26, hc27, hc30, hc36, hc37, hc38, Nd.mostM, Nd.empty, Nd.top_at ht29, Bool.or_true, Bool.true_or, Bool.or_false, Bool.false_or, cond_true, cond_false, Bool.true_and, Bool.false_and, Bool.and_true, Bool.and_false]), h46, ((hM42).own (by rintro i b hi h1 h2 h3; (try dsimp only at h1); omega))⟩⟩, by first | omega | (dsimp only; omega)⟩
          | true =>
           refine WL.lss rfl rfl rfl rfl hc36 ?_
           have hp36 := of_decide_eq_true hc36
           refine mv ?_
           refine ps ?_
           refine ps ?_
           refine pT ?_
           refine mv ?_
           refine ps ?_
           refine ps ?_
           refine ps ?_
           refine ps ?_
           refine ps ?_
           refine ps ?_
           refine pT ?_
           refine WL.dn ?_
           refine cT ?_
           refine WC.region ?_
           refine asg ?_
           refine WL.dn ?_
           refine sq ?_
           refine mv ?_
           refine mv ?_
           refine WL.max3 (v := Nd.max3 (x11.2.1.tmod 3) (-1) 1) rfl rfl rfl rfl rfl rfl ?_
           refine asg ?_
           refine WL.dn ?_
           refine sq ?_
           refine mv ?_
           refine mv ?_
           refine WL.mul (v := u * (Nd.max3 (x11.2.1.tmod 3) (-1) 1)) rfl rfl rfl rfl (IntWalk.i64_in _ (by have h1 := Nd.mod_bd (x := x11.2.1) (n := 3) (by omega) (by decide); have h2 := Nd.mod_bd (x := x11.2.2) (n := 4) (by omega) (by decide); have := Nd.mul_bd hb3 hb4 (Nd.max3_bd (a := x11.2.1.tmod 3) (b := -1) (by omega) (by omega)); omega)) ?_
           cases hc37 : decide (((u * (Nd.max3 (x11.2.1.tmod 3) (-1) 1)) : Int) ≤ 16) with
           | false =>
            refine WL.leq rfl rfl rfl rfl hc37 ?_
            have hp37 := of_decide_eq_false hc37
            refine WL.dn ?_
            refine cF ?_
            refine WC.sk ?_
            refine WC.region ?_
            refine WL.add (v := (k : Int) + 1) rfl rfl rfl rfl (IntWalk.i64_in _ (by omega)) ?_
            refine mv ?_
            refine WL.nil (fun a_ ha => ?_)
            exact ⟨(k + 1, .slice (some ⟨eb29, 0, none⟩) pile.length capp, ⟨pile, u, gr⟩), _, ha.weaken (s4 (sr rfl (sr rfl (sr rfl (subReg_nil _))))), ⟨rfl, ((hB19.onto (hE7.trans hE16) (by omega)).trans hE33), ⟨by first | omega | (dsimp only; omega), by omega, (by rw [Nd.madeSt_succ hx11, ← hst]; simp only [Nd.stepM, hc10, hc21, hc22, hc23, hc24, hc25, hc26, hc27, hc30, hc36, hc37, Nd.mostM, Nd.empty, Nd.top_at ht29, Bool.or_true, Bool.true_or, Bool.or_false, Bool.false_or, cond_true, cond_false, Bool.true_and, Bool.false_and, Bool.and_true, Bool.and_false]), (h32.ext hE33), ((h31.ext hE33).dom (by intro k h1 _ _; (try dsimp only at h1); (repeat' first | (guard_hyp h1 : _ ∨ _; refine Or.elim h1 (fun h1 => ?_) (fun h1 => ?_)) | (guard_hyp h1 : _ ∧ _; have hx := h1.2; replace h1 := h1.1)) <;> first | contradiction | omega | (dsimp only; omega)))⟩⟩, by first | omega | (dsimp only; omega)⟩
           | true =>
            refine WL.leq rfl rfl rfl rfl hc37 ?_
            have hp37 := of_decide_eq_true hc37
            refine WL.dn ?_
            refine cT ?_
            refine sq ?_
            refine mv ?_
            refine mv ?_
            refine WL.mul (v := u * (Nd.max3 (x11.2.1.tmod 3) (-1) 1)) rfl rfl rfl rfl (IntWalk.i64_in _ (by have h1 := Nd.mod_bd (x := x11.2.1) (n := 3) (by omega) (by decide); have h2 := Nd.mod_bd (x := x11.2.2) (n := 4) (by omega) (by decide); have := Nd.mul_bd hb3 hb4 (Nd.max3_bd (a := x11.2.1.tmod 3) (b := -1) (by omega) (by omega)); omega)) ?_
            refine asg ?_
            refine WL.dn ?_
            refine WC.region ?_
            refine mv ?_
            refine mv ?_
            refine WL.sub (v := ((pile.length - 1 : Nat) : Int)) rfl rfl rfl rfl (by rw [IntWalk.i64_in _ (by omega)]; omega) ?_
            refine mv ?_
            refine mv ?_
            refine WL.sub (v := ((pile.length - 1 : Nat) : Int)) rfl rfl rfl rfl (by rw [IntWalk.i64_in _ (by omega)]; omega) ?_
            refine WL.indexAddr (i := (pile.length - 1)) rfl rfl Ty.slice24 rfl rfl rfl (by omega) ?_
            refine WL.load_agg (l := tcells t29 (.slice a29 t29.subs.length cap29)) rfl rfl Ty.agg30 rfl (her29.ext hE33) ?_
            refine mv ?_
            refine mv ?_
            refine WL.call rfl rfl rfl Ty.ent24 (rep_ok _ _ _ t29 (x11.2.1.tmod 3) (-1) (hn29.ext hE33)) ?_
            rintro _ w40 ⟨l38, rfl, hr38, hE39⟩
            have hzhE39 := hE39.size
            refine ⟨_, rfl, ?_⟩
            have hn38 := hr38.lt
            obtain ⟨a38, cap38, rfl, hts38, hlen38⟩ := hn38.op2
            refine WL.indexAddr (i := (pile.length - 1)) rfl rfl Ty.slice24 rfl rfl rfl (by omega) ?_
            have h43 := ((h28.ext hE33).ext hE39)
            refine WL.storeV (i := (pile.length - 1)) (T := (Nd.mk 5 Nd.zero (x11.2.1.tmod 3) (-1) [t29])) rfl Ty.agg30 rfl rfl h43 (by omega) hn38 (by first | (rintro k ⟨h1, h2⟩ h3; first | omega | (dsimp only at h1; omega)) | (intro k h1 h3; (try dsimp only at h1); (repeat' first | (guard_hyp h1 : _ ∨ _; refine Or.elim h1 (fun h1 => ?_) (fun h1 => ?_)) | (guard_hyp h1 : _ ∧ _; have hx := h1.2; replace h1 := h1.1)) <;> first | contradiction | omega)) (fun w44 hB42 hM41 => ?_)
            have hzhB42 := hB42.size
            refine WL.dn ?_
            refine WC.region ?_
            refine WL.add (v := (k : Int) + 1) rfl rfl rfl rfl (IntWalk.i64_in _ (by omega)) ?_
            refine mv ?_
            refine WL.nil (fun a_ ha => ?_)
            have h45 := (hB42.row ((h32.ext hE33).ext hE39) (by omega))
            exact ⟨(k + 1, .slice (some ⟨eb29, 0, none⟩) pile.length capp, ⟨(pile.set (pile.length - 1) (Nd.mk 5 Nd.zero (x11.2.1.tmod 3) (-1) [t29])), u * (Nd.max3 (x11.2.1.tmod 3) (-1) 1), gr⟩), _, ha.weaken (s4 (sr rfl (sr rfl (sr rfl (subReg_nil _))))), ⟨rfl, (hB42.onto (((hB19.onto (hE7.trans hE16) (by omega)).trans hE33).trans hE39) (by omega)), ⟨by first | omega | (dsimp only; omega), by omega, (by rw [Nd.madeSt_succ hx11, ← hst]; simp only [Nd.stepM, hc10, hc21, hc22, hc23, hc24, hc25, hc26, hc27, hc30, hc36, hc37, Nd.mostM, Nd.empty, Nd.top_at ht29, Bool.or_true, Bool.true_or, Bool.or_false, Bool.false_or, cond_true, cond_false, Bool.true_and, Bool.false_and, Bool.and_true, Bool.and_false]), h45, ((hM41).own (by rintro i b hi h1 h2 h3; (try dsimp only at h1); omega))⟩⟩, by first | omega | (dsimp only; omega)⟩
      | true =>
       refine WL.eql rfl rfl rfl rfl hc25 ?_
       have hp25 := beq_iff_eq.1 hc25
       refine mv ?_
       refine mv ?_
       cases hc26 : decide ((0 : Int) < pile.length) with
       | false =>
        refine WL.gtr rfl rfl rfl rfl hc26 ?_
        have hp26 := of_decide_eq_false hc26
        refine pT ?_
        refine mv ?_
        refine ps ?_
        refine ps ?_
        refine pF ?_
        refine asg ?_
        refine WL.dn ?_
        refine cF ?_
        refine sq ?_
        refine mv ?_
        have hc27 : decide ((9 : Int) < (x11.1.tmod 12)) = false := decide_eq_false (by omega)
        refine WL.gtr rfl rfl rfl rfl hc27 ?_
        refine mv ?_
        refine ps ?_
        refine ps ?_
        refine pF ?_
        refine mv ?_
        refine ps ?_
        refine ps ?_
        refine ps ?_
        refine ps ?_
        refine ps ?_
        refine ps ?_
        refine ps ?_
        refine pF ?_
        refine asg ?_
        refine WL.dn ?_
        refine cF ?_
        refine WC.sk ?_
        refine WC.region ?_
        refine WL.add (v := (k : Int) + 1) rfl rfl rfl rfl (IntWalk.i64_in _ (by omega)) ?_
        refine mv ?_
        refine WL.nil (fun a_ ha => ?_)
        have h28 := ((hO.ext hE16).but hB19 (fun h1 => by first | omega | (dsimp only at h1; omega)) (fun hk => by have := (hO.ext hE16).own _ hk; have := hol _ hk; omega))
        have h29 := (hB19.row (hR2.ext hE16) (by omega))
        exact ⟨(k + 1, .slice ap pile.length capp, ⟨pile, u, gr⟩), _, ha.weaken (s4 (sr rfl (sr rfl (sr rfl (subReg_nil _))))), ⟨rfl, (hB19.onto (hE7.trans hE16) (by omega)), ⟨by first | omega | (dsimp only; omega), by omega, (by rw [Nd.madeSt_succ hx11, ← hst]; simp only [Nd.stepM, hc10, hc21, hc22, hc23, hc24, hc25, hc26, hc27, Nd.mostM, Nd.empty, Bool.or_true, Bool.true_or, Bool.or_false, Bool.false_or, cond_true, cond_false, Bool.true_and, Bool.false_and, Bool.and_true, Bool.and_false]), h29, (h28.dom (by intro k h1 _ _; (try dsimp only at h1); (repeat' first | (guard_hyp h1 : _ ∨ _; refine Or.elim h1 (fun h1 => ?_) (fun h1 => ?_)) | (guard_hyp h1 : _ ∧ _; have hx := h1.2; replace h1 := h1.1)) <;> first | contradiction | omega | (dsimp only; omega)))⟩⟩, by first | omega | (dsimp only; omega)⟩
       | true =>
        refine WL.gtr rfl rfl rfl rfl hc26 ?_
        have hp26 := of_decide_eq_true hc26
        refine pT ?_
        refine mv ?_
        refine mv ?_
        cases hc27 : decide ((gr : Int) < 9) with
        | false =>
         refine WL.lss rfl rfl rfl rfl hc27 ?_
         have hp27 := of_decide_eq_false hc27
         refine pT ?_
         refine asg ?_
         refine WL.dn ?_
         refine cF ?_
         refine sq ?_
         refine mv ?_
         have hc28 : decide ((9 : Int) < (x11.1.tmod 12)) = false := decide_eq_false (by omega)
         refine WL.gtr rfl rfl rfl rfl hc28 ?_
         refine mv ?_
         refine ps ?_
         refine ps ?_
         refine pF ?_
         refine mv ?_
         refine ps ?_
         refine ps ?_
         refine ps ?_
         refine ps ?_
         refine ps ?_
         refine ps ?_
         refine ps ?_
         refine pF ?_
         refine asg ?_
         refine WL.dn ?_
         refine cF ?_
         refine WC.sk ?_
         refine WC.region ?_
         refine WL.add (v := (k : Int) + 1) rfl rfl rfl rfl (IntWalk.i64_in _ (by omega)) ?_
         refine mv ?_
         refine WL.nil (fun a_ ha => ?_)
         have h29 := ((hO.ext hE16).but hB19 (fun h1 => by first | omega | (dsimp only at h1; omega)) (fun hk => by have := (hO.ext hE16).own _ hk; have := hol _ hk; omega))
         have h30 := (hB19.row (hR2.ext hE16) (by omega))
         exact ⟨(k + 1, .slice ap pile.length capp, ⟨pile, u, gr⟩), _, ha.weaken (s4 (sr rfl (sr rfl (sr rfl (subReg_nil _))))), ⟨rfl, (hB19.onto (hE7.trans hE16) (by omega)), ⟨by first | omega | (dsimp only; omega), by omega, (by rw [Nd.madeSt_succ hx11, ← hst]; simp only [Nd.stepM, hc10, hc21, hc22, hc23, hc24, hc25, hc26, hc27, hc28, Nd.mostM, Nd.empty, Bool.or_true, Bool.true_or, Bool.or_false, Bool.false_or, cond_true, cond_false, Bool.true_and, Bool.false_and, Bool.and_true, Bool.and_false]), h30, (h29.dom (by intro k h1 _ _; (try dsimp only at h1); (repeat' first | (guard_hyp h1 : _ ∨ _; refine Or.elim h1 (fun h1 => ?_) (fun h1 => ?_)) | (guard_hyp h1 : _ ∧ _; have hx := h1.2; replace h1 := h1.1)) <;> first | contradiction | omega | (dsimp only; omega)))⟩⟩, by first | omega | (dsimp only; omega)⟩
        | true =>
         refine WL.lss rfl rfl rfl rfl hc27 ?_
         have hp27 := of_decide_eq_true hc27
         refine pT ?_
         refine asg ?_
         refine WL.dn ?_
         refine cT ?_
         refine sq ?_
         refine mv ?_
         refine mv ?_
         refine WL.sub (v := ((pile.length - 1 : Nat) : Int)) rfl rfl rfl rfl (by rw [IntWalk.i64_in _ (by omega)]; omega) ?_
         refine mv ?_
         refine mv ?_
         refine WL.sub (v := ((pile.length - 1 : Nat) : Int)) rfl rfl rfl rfl (by rw [IntWalk.i64_in _ (by omega)]; omega) ?_
         have h28 := ((hM.ext hE16).but hB19 (by rintro i hi ⟨h1, h2⟩; first | omega | (dsimp only at h1; omega) | ((try dsimp only at h1); (repeat' first | (guard_hyp h1 : _ ∨ _; refine Or.elim h1 (fun h1 => ?_) (fun h1 => ?_)) | (guard_hyp h1 : _ ∧ _; have hx := h1.2; replace h1 := h1.1)) <;> first | contradiction | omega)) (fun hk => by have := (hM.ext hE16).block _ hk; have := hol _ hk; omega))
         obtain ⟨t29, ht29⟩ : ∃ t, pile[(pile.length - 1)]? = some t := ⟨_, List.getElem?_eq_getElem (by omega)⟩
         obtain ⟨eb29, el29, hea29, hgb29, hgl29, her29, hn29⟩ := h28.at ht29
         obtain ⟨a29, cap29, rfl, hts29, hlen29⟩ := hn29.op2
         subst hea29
         refine WL.indexAddr (i := (pile.length - 1)) rfl rfl Ty.slice24 rfl rfl rfl (by omega) ?_
         refine WL.load_agg (l := tcells t29 (.slice a29 t29.subs.length cap29)) rfl rfl Ty.agg30 rfl her29 ?_
         refine WL.call rfl rfl rfl Ty.ent23 (group_ok _ _ _ t29 hn29) ?_
         rintro _ w32 ⟨l30, rfl, hr30, hE31⟩
         have hzhE31 := hE31.size
         refine ⟨_, rfl, ?_⟩
         have hn30 := hr30.lt
         obtain ⟨a30, cap30, rfl, hts30, hlen30⟩ := hn30.op2
         refine WL.indexAddr (i := (pile.length - 1)) rfl rfl Ty.slice24 rfl rfl rfl (by omega) ?_
         refine WL.storeV (i := (pile.length - 1)) (T := (Nd.mk 6 Nd.zero 0 0 [t29])) rfl Ty.agg30 rfl rfl (h28.ext hE31) (by omega) hn30 (by first | (rintro k ⟨h1, h2⟩ h3; first | omega | (dsimp only at h1; omega)) | (intro k h1 h3; (try dsimp only at h1); (repeat' first | (guard_hyp h1 : _ ∨ _; refine Or.elim h1 (fun h1 => ?_) (fun h1 => ?_)) | (guard_hyp h1 : _ ∧ _; have hx := h1.2; replace h1 := h1.1)) <;> first | contradiction | omega)) (fun w35 hB34 hM33 => ?_)
         have hzhB34 := hB34.size
         refine WL.dn ?_
         refine WC.region ?_
         refine mv ?_
         refine WL.add (v := gr + 1) rfl rfl rfl rfl (IntWalk.i64_in _ (by omega)) ?_
         refine asg ?_
         refine WL.dn ?_
         refine WC.region ?_
         refine WL.add (v := (k : Int) + 1) rfl rfl rfl rfl (IntWalk.i64_in _ (by omega)) ?_
         refine mv ?_
         refine WL.nil (fun a_ ha => ?_)
         have h36 := (hB34.row ((hB19.row (hR2.ext hE16) (by omega)).ext hE31) (by omega))
         exact ⟨(k + 1, .slice (some ⟨eb29, 0, none⟩) pile.length capp, ⟨(pile.set (pile.length - 1) (Nd.mk 6 Nd.zero 0 0 [t29])), u, gr + 1⟩), _, ha.weaken (s4 (sr rfl (sr rfl (sr rfl (subReg_nil _))))), ⟨rfl, (hB34.onto ((hB19.onto (hE7.trans hE16) (by omega)).trans hE31) (by omega)), ⟨by first | omega | (dsimp only; omega), by omega, (by rw [Nd.madeSt_succ hx11, ← hst]; simp only [Nd.stepM, hc10, hc21, hc22, hc23, hc24, hc25, hc26, hc27, Nd.mostM, Nd.empty, Nd.top_at ht29, Bool.or_true, Bool.true_or, Bool.or_false, Bool.false_or, cond_true, cond_false, Bool.true_and, Bool.false_and, Bool.and_true, Bool.and_false]), h36, ((hM33).own (by rintro i b hi h1 h2 h3; (try dsimp only at h1); omega))⟩⟩, by first | omega | (dsimp only; omega)⟩
     | true =>
      refine WL.lss rfl rfl rfl rfl hc24 ?_
      have hp24 := of_decide_eq_true hc24
      refine mv ?_
      refine mv ?_
      cases hc25 : decide ((1 : Int) < pile.length) with
      | false =>
       refine WL.gtr rfl rfl rfl rfl hc25 ?_
       have hp25 := of_decide_eq_false hc25
       refine pT ?_
       refine asg ?_
       refine WL.dn ?_
       refine cF ?_
       refine sq ?_
       refine mv ?_
       have hc26 : (((x11.1.tmod 12) : Int) == 9) = false := beq_eq_false_iff_ne.2 (by omega)
       refine WL.eql rfl rfl rfl rfl hc26 ?_
       refine mv ?_
       refine ps ?_
       refine ps ?_
       refine pF ?_
       refine mv ?_
       refine ps ?_
       refine ps ?_
       refine pF ?_
       refine asg ?_
       refine WL.dn ?_
       refine cF ?_
       refine sq ?_
       refine mv ?_
       have hc27 : decide ((9 : Int) < (x11.1.tmod 12)) = false := decide_eq_false (by omega)
       refine WL.gtr rfl rfl rfl rfl hc27 ?_
       refine mv ?_
       refine ps ?_
       refine ps ?_
       refine pF ?_
       refine mv ?_
       refine ps ?_
       refine ps ?_
       refine ps ?_
       refine ps ?_
       refine ps ?_
       refine ps ?_
       refine ps ?_
       refine pF ?_
       refine asg ?_
       refine WL.dn ?_
       refine cF ?_
       refine WC.sk ?_
       refine WC.region ?_
       refine WL.add (v := (k : Int) + 1) rfl rfl rfl rfl (IntWalk.i64_in _ (by omega)) ?_
       refine mv ?_
       refine WL.nil (fun a_ ha => ?_)
       have h28 := ((hO.ext hE16).but hB19 (fun h1 => by first | omega | (dsimp only at h1; omega)) (fun hk => by have := (hO.ext hE16).own _ hk; have := hol _ hk; omega))
       have h29 := (hB19.row (hR2.ext hE16) (by omega))
       exact ⟨(k + 1, .slice ap pile.length capp, ⟨pile, u, gr⟩), _, ha.weaken (s4 (sr rfl (sr rfl (sr rfl (subReg_nil _))))), ⟨rfl, (hB19.onto (hE7.trans hE16) (by omega)), ⟨by first | omega | (dsimp only; omega), by omega, (by rw [Nd.madeSt_succ hx11, ← hst]; simp only [Nd.stepM, hc10, hc21, hc22, hc23, hc24, hc25, hc26, hc27, Nd.mostM, Nd.empty, Bool.or_true, Bool.true_or, Bool.or_false, Bool.false_or, cond_true, cond_false, Bool.true_and, Bool.false_and, Bool.and_true, Bool.and_false]), h29, (h28.dom (by intro k h1 _ _; (try dsimp only at h1); (repeat' first | (guard_hyp h1 : _ ∨ _; refine Or.elim h1 (fun h1 => ?_) (fun h1 => ?_)) | (guard_hyp h1 : _ ∧ _; have hx := h1.2; replace h1 := h1.1)) <;> first | contradiction | omega | (dsimp only; omega)))⟩⟩, by first | omega | (dsimp only; omega)⟩
      | true =>
       refine WL.gtr rfl rfl rfl rfl hc25 ?_
       have hp25 := of_decide_eq_true hc25
       refine pT ?_
       refine asg ?_
       refine WL.dn ?_
       refine cT ?_
       have h26 := ((hM.ext hE16).but hB19 (by rintro i hi ⟨h1, h2⟩; first | omega | (dsimp only at h1; omega) | ((try dsimp only at h1); (repeat' first | (guard_hyp h1 : _ ∨ _; refine Or.elim h1 (fun h1 => ?_) (fun h1 => ?_)) | (guard_hyp h1 : _ ∧ _; have hx := h1.2; replace h1 := h1.1)) <;> first | contradiction | omega)) (fun hk => by have := (hM.ext hE16).block _ hk; have := hol _ hk; omega))
       obtain ⟨t27, ht27⟩ : ∃ t, pile[(pile.length - 2)]? = some t := ⟨_, List.getElem?_eq_getElem (by omega)⟩
       obtain ⟨eb27, el27, hea27, hgb27, hgl27, her27, hn27⟩ := h26.at ht27
       obtain ⟨a27, cap27, rfl, hts27, hlen27⟩ := hn27.op2
       subst hea27
       obtain ⟨t28, ht28⟩ : ∃ t, pile[(pile.length - 1)]? = some t := ⟨_, List.getElem?_eq_getElem (by omega)⟩
       obtain ⟨eb28, el28, hea28, hgb28, hgl28, her28, hn28⟩ := h26.at ht28
       obtain ⟨a28, cap28, rfl, hts28, hlen28⟩ := hn28.op2
       cases hea28
       have h29 := ((hO.ext hE16).but hB19 (fun h1 => by first | omega | (dsimp only at h1; omega)) (fun hk => by have := (hO.ext hE16).own _ hk; have := hol _ hk; omega))
       have h30 := (hB19.row (hR2.ext hE16) (by omega))
       refine WC.weaken (r' := [(2, pt b1 0), (20, .slice (some ⟨eb11, eo11, none⟩) ((xs.take 25).length) cap), (21, .int .i64 ((xs.take 25).length)), (22, .int .i64 (k : Int)), (3, .slice (some ⟨eb27, 0, none⟩) pile.length capp), (4, .int .i64 u), (5, .int .i64 gr), (23, .bool true), (24, pt eb11 (eo11 + k * 3)), (25, .agg #[.int .u8 x11.1, .int .u8 x11.2.1, .int .u8 x11.2.2]), (7, pt b12 0), (26, .slice (some ⟨eb27, 0, none⟩) pile.length capp), (27, .int .i64 pile.length), (8, .int .i64 pile.length), (28, pt b12 0), (29, .int .u8 x11.1), (30, .int .u8 (x11.1.tmod 12)), (9, .int .u8 (x11.1.tmod 12)), (32, .int .u8 (x11.1.tmod 12)), (33, .bool false), (31, .bool false), (42, .int .u8 (x11.1.tmod 12)), (43, .bool false), (41, .bool false), (49, .int .u8 (x11.1.tmod 12)), (50, .bool false), (51, .bool false), (52, undef), (53, undef), (54, .bool false), (48, .bool false), (75, .int .u8 (x11.1.tmod 12)), (76, .bool true), (77, .bool true), (78, .int .i64 pile.length), (79, .bool true), (80, .bool true), (74, .bool true)]) (s4 (s4 (s4 (s4 (s4 (s4 (s4 (s4 (s4 (sr rfl (sr rfl (subReg_nil _)))))))))))) ?_
       refine WC.draw 19 [81, 82, 83, 84, 85, 86, 87, 88, 89, 90, 91, 92, 93, 94, 95, 96, 97, 98, 99] [pc (.slice (some ⟨eb27, 0, none⟩) pile.length capp), pc (.int .i64 pile.length), pc (.int .i64 ((pile.length - 2 : Nat) : Int)), pc (.int .i64 pile.length), pc (.int .i64 ((pile.length - 2 : Nat) : Int)), pc (.slice (some ⟨eb27, 0, none⟩) (pile.length - 2) (pile.length - 2)), pc (.slice (some ⟨eb27, 0, none⟩) pile.length capp), pc (.int .i64 pile.length), pc (.int .i64 ((pile.length - 2 : Nat) : Int)), pc (pt eb27 (0 + (pile.length - 2) * 8)), pc (.agg (tcells t27 (.slice a27 t27.subs.length cap27)).toArray), pc (.slice (some ⟨eb27, 0, none⟩) pile.length capp), pc (.int .i64 pile.length), pc (.int .i64 ((pile.length - 1 : Nat) : Int)), pc (pt eb27 (0 + (pile.length - 1) * 8)), pc (.agg (tcells t28 (.slice a28 t28.subs.length cap28)).toArray), pnode (fun k => w6.heap.size ≤ k) (Nd.joins 4 t27 t28), pnodes (fun k => w6.heap.size ≤ k) ([(Nd.joins 4 t27 t28)]), pown 30 w6.heap.size (fun k => w6.heap.size ≤ k) (pile.take (pile.length - 2) ++ [(Nd.joins 4 t27 t28)])] (by kernel_rfl) (by kernel_rfl) (k4 (k4 (k4 (k4 ⟨KW_pnode _ _, KW_pnodes _ _, KW_pown _ _ _ _, trivial⟩)))) rfl rfl rfl (sc4 ?_ ?_ ?_ ?_ (sc4 ?_ ?_ ?_ ?_ (sc4 ?_ ?_ ?_ ?_ (sc4 ?_ ?_ ?_ ?_ (sc ?_ (sc ?_ (sc ?_ (StepsOn.nil _)))))))) ?_
       ·intro σ β w1 hE1 hbi hk
        refine ⟨[], (agree_nil _), ?_⟩
        refine mv ?_
        exact dq hbi rfl
       ·intro σ β w1 hE1 hbi hk
        refine ⟨[], (agree_nil _), ?_⟩
        refine mv ?_
        exact dq hbi rfl
       ·intro σ β w1 hE1 hbi hk
        have hz1 := hE1.size
        refine ⟨[(82, .int .i64 pile.length)], (ak hk 1 (agree_nil _)), ?_⟩
        refine WL.sub (v := ((pile.length - 2 : Nat) : Int)) rfl rfl rfl rfl (by rw [IntWalk.i64_in _ (by omega)]; omega) ?_
        exact dq hbi rfl
       ·intro σ β w1 hE1 hbi hk
        refine ⟨[], (agree_nil _), ?_⟩
        refine mv ?_
        exact dq hbi rfl
       ·intro σ β w1 hE1 hbi hk
        have hz1 := hE1.size
        refine ⟨[(84, .int .i64 pile.length)], (ak hk 3 (agree_nil _)), ?_⟩
        refine WL.sub (v := ((pile.length - 2 : Nat) : Int)) rfl rfl rfl rfl (by rw [IntWalk.i64_in _ (by omega)]; omega) ?_
        exact dq hbi rfl
       ·intro σ β w1 hE1 hbi hk
        have hz1 := hE1.size
        refine ⟨[(81, .slice (some ⟨eb27, 0, none⟩) pile.length capp), (83, .int .i64 ((pile.length - 2 : Nat) : Int)), (85, .int .i64 ((pile.length - 2 : Nat) : Int))], (ak hk 0 (ak hk 2 (ak hk 4 (agree_nil _)))), ?_⟩
        refine WL.slice_hm (m := pile.length - 2) rfl rfl Ty.slice24 rfl rfl rfl (by omega) (by omega) (by omega) ?_
        exact dq hbi rfl
       ·intro σ β w1 hE1 hbi hk
        refine ⟨[], (agree_nil _), ?_⟩
        refine mv ?_
        exact dq hbi rfl
       ·intro σ β w1 hE1 hbi hk
        refine ⟨[], (agree_nil _), ?_⟩
        refine mv ?_
        exact dq hbi rfl
       ·intro σ β w1 hE1 hbi hk
        have hz1 := hE1.size
        refine ⟨[(88, .int .i64 pile.length)], (ak hk 7 (agree_nil _)), ?_⟩
        refine WL.sub (v := ((pile.length - 2 : Nat) : Int)) rfl rfl rfl rfl (by rw [IntWalk.i64_in _ (by omega)]; omega) ?_
        exact dq hbi rfl
       ·intro σ β w1 hE1 hbi hk
        have hz1 := hE1.size
        refine ⟨[(87, .slice (some ⟨eb27, 0, none⟩) pile.length capp), (89, .int .i64 ((pile.length - 2 : Nat) : Int))], (ak hk 6 (ak hk 8 (agree_nil _))), ?_⟩
        refine WL.indexAddr (i := (pile.length - 2)) rfl rfl Ty.slice24 rfl rfl rfl (by omega) ?_
        exact dq hbi rfl
       ·intro σ β w1 hE1 hbi hk
        refine ⟨[(90, pt eb27 (0 + (pile.length - 2) * 8))], (ak hk 9 (agree_nil _)), ?_⟩
        refine WL.load_agg (l := tcells t27 (.slice a27 t27.subs.length cap27)) rfl rfl Ty.agg30 rfl (her27.ext hE1) ?_
        exact dq hbi rfl
       ·intro σ β w1 hE1 hbi hk
        refine ⟨[], (agree_nil _), ?_⟩
        refine mv ?_
        exact dq hbi rfl
       ·intro σ β w1 hE1 hbi hk
        refine ⟨[], (agree_nil _), ?_⟩
        refine mv ?_
        exact dq hbi rfl
       ·intro σ β w1 hE1 hbi hk
        have hz1 := hE1.size
        refine ⟨[(93, .int .i64 pile.length)], (ak hk 12 (agree_nil _)), ?_⟩
        refine WL.sub (v := ((pile.length - 1 : Nat) : Int)) rfl rfl rfl rfl (by rw [IntWalk.i64_in _ (by omega)]; omega) ?_
        exact dq hbi rfl
       ·intro σ β w1 hE1 hbi hk
        have hz1 := hE1.size
        refine ⟨[(92, .slice (some ⟨eb27, 0, none⟩) pile.length capp), (94, .int .i64 ((pile.length - 1 : Nat) : Int))], (ak hk 11 (ak hk 13 (agree_nil _))), ?_⟩
        refine WL.indexAddr (i := (pile.length - 1)) rfl rfl Ty.slice24 rfl rfl rfl (by omega) ?_
        exact dq hbi rfl
       ·intro σ β w1 hE1 hbi hk
        refine ⟨[(95, pt eb27 (0 + (pile.length - 1) * 8))], (ak hk 14 (agree_nil _)), ?_⟩
        refine WL.load_agg (l := tcells t28 (.slice a28 t28.subs.length cap28)) rfl rfl Ty.agg30 rfl (her28.ext hE1) ?_
        exact dq hbi rfl
       ·intro σ β w1 hE1 hbi hk
        have hz1 := hE1.size
        refine ⟨[(91, .agg (tcells t27 (.slice a27 t27.subs.length cap27)).toArray), (96, .agg (tcells t28 (.slice a28 t28.subs.length cap28)).toArray)], (ak hk 10 (ak hk 15 (agree_nil _))), ?_⟩
        refine WL.call rfl rfl rfl Ty.ent22 (joins_ok _ _ _ 4 _ _ t27 t28 (hn27.ext hE1) (hn28.ext hE1) (by have h1 := Nd.size_le_sizeL (List.mem_of_getElem? ht27); omega) (by have h1 := Nd.size_le_sizeL (List.mem_of_getElem? ht28); omega)) ?_
        rintro _ w55 ⟨l53, rfl, hr53, hE54⟩
        have hzhE54 := hE54.size
        refine ⟨_, rfl, ?_⟩
        have hn53 := hr53.lt
        obtain ⟨a53, cap53, rfl, hts53, hlen53⟩ := hn53.op2
        exact dqE hbi hE54 ⟨_, rfl, (hr53.lt.dom (by intro k h1; refine ⟨(by replace h1 := h1.1; (try dsimp only at h1); (repeat' first | (guard_hyp h1 : _ ∨ _; refine Or.elim h1 (fun h1 => ?_) (fun h1 => ?_)) | (guard_hyp h1 : _ ∧ _; have hx := h1.2; replace h1 := h1.1)) <;> first | contradiction | omega), ?_, h1.2⟩; replace h1 := h1.1; intro x hxm; have hi := hbi.hi x hxm; have lo := hbi.lo x hxm; (try dsimp only at h1); (repeat' first | (guard_hyp h1 : _ ∨ _; refine Or.elim h1 (fun h1 => ?_) (fun h1 => ?_)) | (guard_hyp h1 : _ ∧ _; have hx := h1.2; replace h1 := h1.1)) <;> first | contradiction | omega | exact hx.1 x hxm))⟩
       ·intro σ β w1 hE1 hbi hk
        have hz1 := hE1.size
        obtain ⟨_, hv51, l51, rfl, hn51⟩ := kn hk 16 rfl rfl
        have hn51 := hn51.lt
        obtain ⟨a51, cap51, rfl, hts51, hlen51⟩ := hn51.op2
        refine ⟨[(97, .agg (tcells (Nd.joins 4 t27 t28) (.slice a51 (Nd.joins 4 t27 t28).subs.length cap51)).toArray)], (ag hv51 (agree_nil _)), ?_⟩
        refine WL.buildSlice (vs := [.agg (tcells (Nd.joins 4 t27 t28) (.slice a51 (Nd.joins 4 t27 t28).subs.length cap51)).toArray]) (cells := (tcells (Nd.joins 4 t27 t28) (.slice a51 (Nd.joins 4 t27 t28).subs.length cap51))) rfl rfl Ty.slice24 Ty.zero30 rfl rfl rfl rfl rfl rfl (fun b52 w57 hb53 hE56 hs54 hR55 => ?_)
        have hts52 := (NodesV.lit (n := 1) (ts := [(Nd.joins 4 t27 t28)]) hR55 (RowsL.cons (hn51.ext hE56) (RowsL.nil' _)) rfl rfl (by decide)).lt
        exact dqE hbi hE56 ⟨_, _, rfl, (hts52.dom (by intro k h1; refine ⟨(by replace h1 := h1.1; (try dsimp only at h1); (repeat' first | (guard_hyp h1 : _ ∨ _; refine Or.elim h1 (fun h1 => ?_) (fun h1 => ?_)) | (guard_hyp h1 : _ ∧ _; have hx := h1.2; replace h1 := h1.1)) <;> first | contradiction | omega), ?_, h1.2⟩; replace h1 := h1.1; intro x hxm; have hi := hbi.hi x hxm; have lo := hbi.lo x hxm; (try dsimp only at h1); (repeat' first | (guard_hyp h1 : _ ∨ _; refine Or.elim h1 (fun h1 => ?_) (fun h1 => ?_)) | (guard_hyp h1 : _ ∧ _; have hx := h1.2; replace h1 := h1.1)) <;> first | contradiction | omega | exact hx.1 x hxm))⟩
       ·intro σ β w1 hE1 hbi hk
        have hz1 := hE1.size
        obtain ⟨_, hv52, a52, cap52, rfl, hts52⟩ := kn hk 17 rfl rfl
        have hts52 := hts52.lt
        have hlen52 := hts52.len
        refine ⟨[(86, .slice (some ⟨eb27, 0, none⟩) (pile.length - 2) (pile.length - 2)), (98, .slice a52 (([(Nd.joins 4 t27 t28)]).length) cap52)], (ak hk 5 (ag hv52 (agree_nil _))), ?_⟩
        have h54 := (((hts.ext hE16).bu hB19).ext hE1)
        refine WL.appendFull rfl rfl Ty.slice24 Ty.zero30 rfl small_node rfl rfl ((h54).take (by omega) (Nat.le_refl _)) hts52 (by simp) (fun h => by rw [(hnn h).1]; rfl) (by simp; omega) ?_
        intro v53 w53 hO53 hE53
        have hz53 := hE53.size
        exact dqE hbi hE53 ((hO53.rebase (by omega)).dom (by intro k h1 _ _; (try dsimp only at h1); (repeat' first | (guard_hyp h1 : _ ∨ _; refine Or.elim h1 (fun h1 => ?_) (fun h1 => ?_)) | (guard_hyp h1 : _ ∧ _; have hx := h1.2; replace h1 := h1.1)) <;> first | contradiction | omega | (dsimp only; omega)))
       intro σ β w31 hE31 hbi31 hk
       have hz31 := hE31.size
       have hbi := hbi31
       obtain ⟨v32, hv32, hO32⟩ := hk 18 (by decide) _ _ rfl rfl
       refine WL.know [(99, v32)] (ag hv32 (agree_nil _)) ?_
       refine asg ?_
       refine WL.dn ?_
       refine WC.region ?_
       refine WL.add (v := (k : Int) + 1) rfl rfl rfl rfl (IntWalk.i64_in _ (by omega)) ?_
       refine mv ?_
       refine WL.nil (fun a_ ha => ?_)
       exact ⟨(k + 1, v32, ⟨(pile.take (pile.length - 2) ++ [(Nd.joins 4 t27 t28)]), u, gr⟩), _, ha.weaken (s4 (sr rfl (sr rfl (sr rfl (subReg_nil _))))), ⟨rfl, ((hB19.onto (hE7.trans hE16) (by omega)).trans hE31), ⟨by first | omega | (dsimp only; omega), by omega, (by rw [Nd.madeSt_succ hx11, ← hst]; simp only [Nd.stepM, hc10, hc21, hc22, hc23, hc24, hc25, Nd.mostM, Nd.empty, Nd.top2_at ht27, Nd.top_at ht28, Bool.or_true, Bool.true_or, Bool.or_false, Bool.false_or, cond_true, cond_false, Bool.true_and, Bool.false_and, Bool.and_true, Bool.and_false]), (h30.ext hE31), (hO32.dom (by intro k h1 _ _; (try dsimp only at h1); (repeat' first | (guard_hyp h1 : _ ∨ _; refine Or.elim h1 (fun h1 => ?_) (fun h1 => ?_)) | (guard_hyp h1 : _ ∧ _; have hx := h1.2; replace h1 := h1.1)) <;> first | contradiction | omega | (dsimp only; omega)))⟩⟩, by first | omega | (dsimp only; omega)⟩
    | true =>
     refine WL.lss rfl rfl rfl rfl hc23 ?_
     have hp23 := of_decide_eq_true hc23
     refine mv ?_
     refine mv ?_
     cases hc24 : decide ((1 : Int) < pile.length) with
     | false =>
      refine WL.gtr rfl rfl rfl rfl hc24 ?_
      have hp24 := of_decide_eq_false hc24
      refine pT ?_
      refine asg ?_
      refine WL.dn ?_
      refine cF ?_
      refine sq ?_
      refine mv ?_
      have hc25 : decide (((x11.1.tmod 12) : Int) < 9) = true := decide_eq_true (by omega)
      refine WL.lss rfl rfl rfl rfl hc25 ?_
      refine mv ?_
      refine mv ?_
      refine WL.gtr (b := false) rfl rfl rfl rfl hc24 ?_
      refine pT ?_
      refine asg ?_
      refine WL.dn ?_
      refine cF ?_
      refine sq ?_
      refine mv ?_
      have hc26 : (((x11.1.tmod 12) : Int) == 9) = false := beq_eq_false_iff_ne.2 (by omega)
      refine WL.eql rfl rfl rfl rfl hc26 ?_
      refine mv ?_
      refine ps ?_
      refine ps ?_
      refine pF ?_
      refine mv ?_
      refine ps ?_
      refine ps ?_
      refine pF ?_
      refine asg ?_
      refine WL.dn ?_
      refine cF ?_
      refine sq ?_
      refine mv ?_
      have hc27 : decide ((9 : Int) < (x11.1.tmod 12)) = false := decide_eq_false (by omega)
      refine WL.gtr rfl rfl rfl rfl hc27 ?_
      refine mv ?_
      refine ps ?_
      refine ps ?_
      refine pF ?_
      refine mv ?_
      refine ps ?_
      refine ps ?_
      refine ps ?_
      refine ps ?_
      refine ps ?_
      refine ps ?_
      refine ps ?_
      refine pF ?_
      refine asg ?_
      refine WL.dn ?_
      refine cF ?_
      refine WC.sk ?_
      refine WC.region ?_
      refine WL.add (v := (k : Int) + 1) rfl rfl rfl rfl (IntWalk.i64_in _ (by omega)) ?_
      refine mv ?_
      refine WL.nil (fun a_ ha => ?_)
      have h28 := ((hO.ext hE16).but hB19 (fun h1 => by first | omega | (dsimp only at h1; omega)) (fun hk => by have := (hO.ext hE16).own _ hk; have := hol _ hk; omega))
      have h29 := (hB19.row (hR2.ext hE16) (by omega))
      exact ⟨(k + 1, .slice ap pile.length capp, ⟨pile, u, gr⟩), _, ha.weaken (s4 (sr rfl (sr rfl (sr rfl (subReg_nil _))))), ⟨rfl, (hB19.onto (hE7.trans hE16) (by omega)), ⟨by first | omega | (dsimp only; omega), by omega, (by rw [Nd.madeSt_succ hx11, ← hst]; simp only [Nd.stepM, hc10, hc21, hc22, hc23, hc24, hc25, hc26, hc27, Nd.mostM, Nd.empty, Bool.or_true, Bool.true_or, Bool.or_false, Bool.false_or, cond_true, cond_false, Bool.true_and, Bool.false_and, Bool.and_true, Bool.and_false]), h29, (h28.dom (by intro k h1 _ _; (try dsimp only at h1); (repeat' first | (guard_hyp h1 : _ ∨ _; refine Or.elim h1 (fun h1 => ?_) (fun h1 => ?_)) | (guard_hyp h1 : _ ∧ _; have hx := h1.2; replace h1 := h1.1)) <;> first | contradiction | omega | (dsimp only; omega)))⟩⟩, by first | omega | (dsimp only; omega)⟩
     | true =>
      refine WL.gtr rfl rfl rfl rfl hc24 ?_
      have hp24 := of_decide_eq_true hc24
      refine pT ?_
      refine asg ?_
      refine WL.dn ?_
      refine cT ?_
      have h25 := ((hM.ext hE16).but hB19 (by rintro i hi ⟨h1, h2⟩; first | omega | (dsimp only at h1; omega) | ((try dsimp only at h1); (repeat' first | (guard_hyp h1 : _ ∨ _; refine Or.elim h1 (fun h1 => ?_) (fun h1 => ?_)) | (guard_hyp h1 : _ ∧ _; have hx := h1.2; replace h1 := h1.1)) <;> first | contradiction | omega)) (fun hk => by have := (hM.ext hE16).block _ hk; have := hol _ hk; omega))
      obtain ⟨t26, ht26⟩ : ∃ t, pile[(pile.length - 2)]? = some t := ⟨_, List.getElem?_eq_getElem (by omega)⟩
      obtain ⟨eb26, el26, hea26, hgb26, hgl26, her26, hn26⟩ := h25.at ht26
      obtain ⟨a26, cap26, rfl, hts26, hlen26⟩ := hn26.op2
      subst hea26
      obtain ⟨t27, ht27⟩ : ∃ t, pile[(pile.length - 1)]? = some t := ⟨_, List.getElem?_eq_getElem (by omega)⟩
      obtain ⟨eb27, el27, hea27, hgb27, hgl27, her27, hn27⟩ := h25.at ht27
      obtain ⟨a27, cap27, rfl, hts27, hlen27⟩ := hn27.op2
      cases hea27
      have h28 := ((hO.ext hE16).but hB19 (fun h1 => by first | omega | (dsimp only at h1; omega)) (fun hk => by have := (hO.ext hE16).own _ hk; have := hol _ hk; omega))
      have h29 := (hB19.row (hR2.ext hE16) (by omega))
      refine WC.weaken (r' := [(2, pt b1 0), (20, .slice (some ⟨eb11, eo11, none⟩) ((xs.take 25).length) cap), (21, .int .i64 ((xs.take 25).length)), (22, .int .i64 (k : Int)), (3, .slice (some ⟨eb26, 0, none⟩) pile.length capp), (4, .int .i64 u), (5, .int .i64 gr), (23, .bool true), (24, pt eb11 (eo11 + k * 3)), (25, .agg #[.int .u8 x11.1, .int .u8 x11.2.1, .int .u8 x11.2.2]), (7, pt b12 0), (26, .slice (some ⟨eb26, 0, none⟩) pile.length capp), (27, .int .i64 pile.length), (8, .int .i64 pile.length), (28, pt b12 0), (29, .int .u8 x11.1), (30, .int .u8 (x11.1.tmod 12)), (9, .int .u8 (x11.1.tmod 12)), (32, .int .u8 (x11.1.tmod 12)), (33, .bool false), (31, .bool false), (42, .int .u8 (x11.1.tmod 12)), (43, .bool false), (41, .bool false), (49, .int .u8 (x11.1.tmod 12)), (50, .bool true), (51, .bool true), (52, .int .i64 pile.length), (53, .bool true), (54, .bool true), (48, .bool true)]) (s4 (s4 (s4 (s4 (s4 (s4 (s4 (sr rfl (sr rfl (sr rfl (subReg_nil _))))))))))) ?_
      refine WC.draw 19 [55, 56, 57, 58, 59, 60, 61, 62, 63, 64, 65, 66, 67, 68, 69, 70, 71, 72, 73] [pc (.slice (some ⟨eb26, 0, none⟩) pile.length capp), pc (.int .i64 pile.length), pc (.int .i64 ((pile.length - 2 : Nat) : Int)), pc (.int .i64 pile.length), pc (.int .i64 ((pile.length - 2 : Nat) : Int)), pc (.slice (some ⟨eb26, 0, none⟩) (pile.length - 2) (pile.length - 2)), pc (.slice (some ⟨eb26, 0, none⟩) pile.length capp), pc (.int .i64 pile.length), pc (.int .i64 ((pile.length - 2 : Nat) : Int)), pc (pt eb26 (0 + (pile.length - 2) * 8)), pc (.agg (tcells t26 (.slice a26 t26.subs.length cap26)).toArray), pc (.slice (some ⟨eb26, 0, none⟩) pile.length capp), pc (.int .i64 pile.length), pc (.int .i64 ((pile.length - 1 : Nat) : Int)), pc (pt eb26 (0 + (pile.length - 1) * 8)), pc (.agg (tcells t27 (.slice a27 t27.subs.length cap27)).toArray), pnode (fun k => w6.heap.size ≤ k) (Nd.joins 3 t26 t27), pnodes (fun k => w6.heap.size ≤ k) ([(Nd.joins 3 t26 t27)]), pown 30 w6.heap.size (fun k => w6.heap.size ≤ k) (pile.take (pile.length - 2) ++ [(Nd.joins 3 t26 t27)])] (by kernel_rfl) (by kernel_rfl) (k4 (k4 (k4 (k4 ⟨KW_pnode _ _, KW_pnodes _ _, KW_pown _ _ _ _, trivial⟩)))) rfl rfl rfl (sc4 ?_ ?_ ?_ ?_ (sc4 ?_ ?_ ?_ ?_ (sc4 ?_ ?_ ?_ ?_ (sc4 ?_ ?_ ?_ ?_ (sc ?_ (sc ?_ (sc ?_ (StepsOn.nil _)))))))) ?_
      ·intro σ β w1 hE1 hbi hk
       refine ⟨[], (agree_nil _), ?_⟩
       refine mv ?_
       exact dq hbi rfl
      ·intro σ β w1 hE1 hbi hk
       refine ⟨[], (agree_nil _), ?_⟩
       refine mv ?_
       exact dq hbi rfl
      ·intro σ β w1 hE1 hbi hk
       have hz1 := hE1.size
       refine ⟨[(56, .int .i64 pile.length)], (ak hk 1 (agree_nil _)), ?_⟩
       refine WL.sub (v := ((pile.length - 2 : Nat) : Int)) rfl rfl rfl rfl (by rw [IntWalk.i64_in _ (by omega)]; omega) ?_
       exact dq hbi rfl
      ·intro σ β w1 hE1 hbi hk
       refine ⟨[], (agree_nil _), ?_⟩
       refine mv ?_
       exact dq hbi rfl
      ·intro σ β w1 hE1 hbi hk
       have hz1 := hE1.size
       refine ⟨[(58, .int .i64 pile.length)], (ak hk 3 (agree_nil _)), ?_⟩
       refine WL.sub (v := ((pile.length - 2 : Nat) : Int)) rfl rfl rfl rfl (by rw [IntWalk.i64_in _ (by omega)]; omega) ?_
       exact dq hbi rfl
      ·intro σ β w1 hE1 hbi hk
       have hz1 := hE1.size
       refine ⟨[(55, .slice (some ⟨eb26, 0, none⟩) pile.length capp), (57, .int .i64 ((pile.length - 2 : Nat) : Int)), (59, .int .i64 ((pile.length - 2 : Nat) : Int))], (ak hk 0 (ak hk 2 (ak hk 4 (agree_nil _)))), ?_⟩
       refine WL.slice_hm (m := pile.length - 2) rfl rfl Ty.slice24 rfl rfl rfl (by omega) (by omega) (by omega) ?_
       exact dq hbi rfl
      ·intro σ β w1 hE1 hbi hk
       refine ⟨[], (agree_nil _), ?_⟩
       refine mv ?_
       exact dq hbi rfl
      ·intro σ β w1 hE1 hbi hk
       refine ⟨[], (agree_nil _), ?_⟩
       refine mv ?_
       exact dq hbi rfl
      ·intro σ β w1 hE1 hbi hk
       have hz1 := hE1.size
       refine ⟨[(62, .int .i64 pile.length)], (ak hk 7 (agree_nil _)), ?_⟩
       refine WL.sub (v := ((pile.length - 2 : Nat) : Int)) rfl rfl rfl rfl (by rw [IntWalk.i64_in _ (by omega)]; omega) ?_
       exact dq hbi rfl
      ·intro σ β w1 hE1 hbi hk
       have hz1 := hE1.size
       refine ⟨[(61, .slice (some ⟨eb26, 0, none⟩) pile.length capp), (63, .int .i64 ((pile.length - 2 : Nat) : Int))], (ak hk 6 (ak hk 8 (agree_nil _))), ?_⟩
       refine WL.indexAddr (i := (pile.length - 2)) rfl rfl Ty.slice24 rfl rfl rfl (by omega) ?_
       exact dq hbi rfl
      ·intro σ β w1 hE1 hbi hk
       refine ⟨[(64, pt eb26 (0 + (pile.length - 2) * 8))], (ak hk 9 (agree_nil _)), ?_⟩
       refine WL.load_agg (l := tcells t26 (.slice a26 t26.subs.length cap26)) rfl rfl Ty.agg30 rfl (her26.ext hE1) ?_
       exact dq hbi rfl
      ·intro σ β w1 hE1 hbi hk
       refine ⟨[], (agree_nil _), ?_⟩
       refine mv ?_
       exact dq hbi rfl
      ·intro σ β w1 hE1 hbi hk
       refine ⟨[], (agree_nil _), ?_⟩
       refine mv ?_
       exact dq hbi rfl
      ·intro σ β w1 hE1 hbi hk
       have hz1 := hE1.size
       refine ⟨[(67, .int .i64 pile.length)], (ak hk 12 (agree_nil _)), ?_⟩
       refine WL.sub (v := ((pile.length - 1 : Nat) : Int)) rfl rfl rfl rfl (by rw [IntWalk.i64_in _ (by omega)]; omega) ?_
       exact dq hbi rfl
      ·intro σ β w1 hE1 hbi hk
       have hz1 := hE1.size
       refine ⟨[(66, .slice (some ⟨eb26, 0, none⟩) pile.length capp), (68, .int .i64 ((pile.length - 1 : Nat) : Int))], (ak hk 11 (ak hk 13 (agree_nil _))), ?_⟩
       refine WL.indexAddr (i := (pile.length - 1)) rfl rfl Ty.slice24 rfl rfl rfl (by omega) ?_
       exact dq hbi rfl
      ·intro σ β w1 hE1 hbi hk
       refine ⟨[(69, pt eb26 (0 + (pile.length - 1) * 8))], (ak hk 14 (agree_nil _)), ?_⟩
       refine WL.load_agg (l := tcells t27 (.slice a27 t27.subs.length cap27)) rfl rfl Ty.agg30 rfl (her27.ext hE1) ?_
       exact dq hbi rfl
      ·intro σ β w1 hE1 hbi hk
       have hz1 := hE1.size
       refine ⟨[(65, .agg (tcells t26 (.slice a26 t26.subs.length cap26)).toArray), (70, .agg (tcells t27 (.slice a27 t27.subs.length cap27)).toArray)], (ak hk 10 (ak hk 15 (agree_nil _))), ?_⟩
       refine WL.call rfl rfl rfl Ty.ent22 (joins_ok _ _ _ 3 _ _ t26 t27 (hn26.ext hE1) (hn27.ext hE1) (by have h1 := Nd.size_le_sizeL (List.mem_of_getElem? ht26); omega) (by have h1 := Nd.size_le_sizeL (List.mem_of_getElem? ht27); omega)) ?_
       rintro _ w54 ⟨l52, rfl, hr52, hE53⟩
       have hzhE53 := hE53.size
       refine ⟨_, rfl, ?_⟩
       have hn52 := hr52.lt
       obtain ⟨a52, cap52, rfl, hts52, hlen52⟩ := hn52.op2
       exact dqE hbi hE53 ⟨_, rfl, (hr52.lt.dom (by intro k h1; refine ⟨(by replace h1 := h1.1; (try dsimp only at h1); (repeat' first | (guard_hyp h1 : _ ∨ _; refine Or.elim h1 (fun h1 => ?_) (fun h1 => ?_)) | (guard_hyp h1 : _ ∧ _; have hx := h1.2; replace h1 := h1.1)) <;> first | contradiction | omega), ?_, h1.2⟩; replace h1 := h1.1; intro x hxm; have hi := hbi.hi x hxm; have lo := hbi.lo x hxm; (try dsimp only at h1); (repeat' first | (guard_hyp h1 : _ ∨ _; refine Or.elim h1 (fun h1 => ?_) (fun h1 => ?_)) | (guard_hyp h1 : _ ∧ _; have hx := h1.2; replace h1 := h1.1)) <;> first | contradiction | omega | exact hx.1 x hxm))⟩
      ·intro σ β w1 hE1 hbi hk
       have hz1 := hE1.size
       obtain ⟨_, hv50, l50, rfl, hn50⟩ := kn hk 16 rfl rfl
       have hn50 := hn50.lt
       obtain ⟨a50, cap50, rfl, hts50, hlen50⟩ := hn50.op2
       refine ⟨[(71, .agg (tcells (Nd.joins 3 t26 t27) (.slice a50 (Nd.joins 3 t26 t27).subs.length cap50)).toArray)], (ag hv50 (agree_nil _)), ?_⟩
       refine WL.buildSlice (vs := [.agg (tcells (Nd.joins 3 t26 t27) (.slice a50 (Nd.joins 3 t26 t27).subs.length cap50)).toArray]) (cells := (tcells (Nd.joins 3 t26 t27) (.slice a50 (Nd.joins 3 t26 t27).subs.length cap50))) rfl rfl Ty.slice24 Ty.zero30 rfl rfl rfl rfl rfl rfl (fun b51 w56 hb52 hE55 hs53 hR54 => ?_)
       have hts51 := (NodesV.lit (n := 1) (ts := [(Nd.joins 3 t26 t27)]) hR54 (RowsL.cons (hn50.ext hE55) (RowsL.nil' _)) rfl rfl (by decide)).lt
       exact dqE hbi hE55 ⟨_, _, rfl, (hts51.dom (by intro k h1; refine ⟨(by replace h1 := h1.1; (try dsimp only at h1); (repeat' first | (guard_hyp h1 : _ ∨ _; refine Or.elim h1 (fun h1 => ?_) (fun h1 => ?_)) | (guard_hyp h1 : _ ∧ _; have hx := h1.2; replace h1 := h1.1)) <;> first | contradiction | omega), ?_, h1.2⟩; replace h1 := h1.1; intro x hxm; have hi := hbi.hi x hxm; have lo := hbi.lo x hxm; (try dsimp only at h1); (repeat' first | (guard_hyp h1 : _ ∨ _; refine Or.elim h1 (fun h1 => ?_) (fun h1 => ?_)) | (guard_hyp h1 : _ ∧ _; have hx := h1.2; replace h1 := h1.1)) <;> first | contradiction | omega | exact hx.1 x hxm))⟩
      ·intro σ β w1 hE1 hbi hk
       have hz1 := hE1.size
       obtain ⟨_, hv51, a51, cap51, rfl, hts51⟩ := kn hk 17 rfl rfl
       have hts51 := hts51.lt
       have hlen51 := hts51.len
       refine ⟨[(60, .slice (some ⟨eb26, 0, none⟩) (pile.length - 2) (pile.length - 2)), (72, .slice a51 (([(Nd.joins 3 t26 t27)]).length) cap51)], (ak hk 5 (ag hv51 (agree_nil _))), ?_⟩
       have h53 := (((hts.ext hE16).bu hB19).ext hE1)
       refine WL.appendFull rfl rfl Ty.slice24 Ty.zero30 rfl small_node rfl rfl ((h53).take (by omega) (Nat.le_refl _)) hts51 (by simp) (fun h => by rw [(hnn h).1]; rfl) (by simp; omega) ?_
       intro v52 w52 hO52 hE52
       have hz52 := hE52.size
       exact dqE hbi hE52 ((hO52.rebase (by omega)).dom (by intro k h1 _ _; (try dsimp only at h1); (repeat' first | (guard_hyp h1 : _ ∨ _; refine Or.elim h1 (fun h1 => ?_) (fun h1 => ?_)) | (guard_hyp h1 : _ ∧ _; have hx := h1.2; replace h1 := h1.1)) <;> first | contradiction | omega | (dsimp only; omega)))
      intro σ β w30 hE30 hbi30 hk
      have hz30 := hE30.size
      have hbi := hbi30
      obtain ⟨v31, hv31, hO31⟩ := hk 18 (by decide) _ _ rfl rfl
      refine WL.know [(73, v31)] (ag hv31 (agree_nil _)) ?_
      refine asg ?_
      refine WL.dn ?_
      refine WC.region ?_
      refine WL.add (v := (k : Int) + 1) rfl rfl rfl rfl (IntWalk.i64_in _ (by omega)) ?_
      refine mv ?_
      refine WL.nil (fun a_ ha => ?_)
      exact ⟨(k + 1, v31, ⟨(pile.take (pile.length - 2) ++ [(Nd.joins 3 t26 t27)]), u, gr⟩), _, ha.weaken (s4 (sr rfl (sr rfl (sr rfl (subReg_nil _))))), ⟨rfl, ((hB19.onto (hE7.trans hE16) (by omega)).trans hE30), ⟨by first | omega | (dsimp only; omega), by omega, (by rw [Nd.madeSt_succ hx11, ← hst]; simp only [Nd.stepM, hc10, hc21, hc22, hc23, hc24, Nd.mostM, Nd.empty, Nd.top2_at ht26, Nd.top_at ht27, Bool.or_true, Bool.true_or, Bool.or_false, Bool.false_or, cond_true, cond_false, Bool.true_and, Bool.false_and, Bool.and_true, Bool.and_false]), (h29.ext hE30), (hO31.dom (by intro k h1 _ _; (try dsimp only at h1); (repeat' first | (guard_hyp h1 : _ ∨ _; refine Or.elim h1 (fun h1 => ?_) (fun h1 => ?_)) | (guard_hyp h1 : _ ∧ _; have hx := h1.2; replace h1 := h1.1)) <;> first | contradiction | omega | (dsimp only; omega)))⟩⟩, by first | omega | (dsimp only; omega)⟩
   | true =>
    refine WL.eql rfl rfl rfl rfl hc22 ?_
    have hp22 := beq_iff_eq.1 hc22
    refine asg ?_
    refine WL.dn ?_
    refine cT ?_
    refine WC.region ?_
    refine mv ?_
    refine WL.build (l := (zc 1 0 0 (.slice none 0 0))) rfl rfl Ty.zero30 Ty.st30 ⟨⟨rfl, rfl⟩, (by kernel_rfl)⟩ ?_
    have hn23 : NodeL _ w20 (zc 1 0 0 (.slice none 0 0)) (Nd.mk 1 Nd.zero 0 0 ([])) := NodeL.shut (k := 1) (s := Nd.zero) (mn := 0) (mx := 0) (sl := .slice none 0 0) (ts := []) (NodesV.nil (fun _ => False) _ none 0)
    have hn23 := hn23.lt
    refine WL.buildSlice (vs := [.agg (zc 1 0 0 (.slice none 0 0)).toArray]) (cells := (zc 1 0 0 (.slice none 0 0))) rfl rfl Ty.slice24 Ty.zero30 rfl rfl rfl rfl rfl rfl (fun b24 w29 hb25 hE28 hs26 hR27 => ?_)
    have hts24 := (NodesV.lit (n := 1) (ts := [(Nd.mk 1 Nd.zero 0 0 ([]))]) hR27 (RowsL.cons (hn23.ext hE28) (RowsL.nil' _)) rfl rfl (by decide)).lt
    have h30 := (((hO.ext hE16).but hB19 (fun h1 => by first | omega | (dsimp only at h1; omega)) (fun hk => by have := (hO.ext hE16).own _ hk; have := hol _ hk; omega)).ext hE28)
    have hol31 := h30.own
    refine WL.append1 rfl rfl Ty.slice24 Ty.zero30 rfl small_node rfl rfl h30 hR27 (hn23.ext hE28) (by intro k h1 hh; have := hol31 _ hh; have := hol _ hh; first | omega | ((try dsimp only at h1); (repeat' first | (guard_hyp h1 : _ ∨ _; refine Or.elim h1 (fun h1 => ?_) (fun h1 => ?_)) | (guard_hyp h1 : _ ∧ _; have hx := h1.2; replace h1 := h1.1)) <;> first | contradiction | omega)) (by omega) (by omega) ?_
    intro v31 w31 hG31 hO31 hv31
    have hE31 := grown_below hG31 ((hB19.onto (hE7.trans hE16) (by omega)).trans hE28) (by intro k hk; have := hol31 _ hk; omega)
    have hz31 := hE31.size
    have hzz31 := hG31.size
    refine asg ?_
    refine WL.dn ?_
    refine WC.region ?_
    refine WL.add (v := (k : Int) + 1) rfl rfl rfl rfl (IntWalk.i64_in _ (by omega)) ?_
    refine mv ?_
    refine WL.nil (fun a_ ha => ?_)
    have h32 := (grown_row hG31 ((hB19.row (hR2.ext hE16) (by omega)).ext hE28) (fun hh => by have := hol31 _ hh; have := hol _ hh; omega))
    exact ⟨(k + 1, v31, ⟨pile ++ [(Nd.mk 1 Nd.zero 0 0 ([]))], u, gr⟩), _, ha.weaken (s4 (sr rfl (sr rfl (sr rfl (subReg_nil _))))), ⟨rfl, hE31, ⟨by first | omega | (dsimp only; omega), by omega, (by rw [Nd.madeSt_succ hx11, ← hst]; simp only [Nd.stepM, hc10, hc21, hc22, Nd.mostM, Nd.empty, Bool.or_true, Bool.true_or, Bool.or_false, Bool.false_or, cond_true, cond_false, Bool.true_and, Bool.false_and, Bool.and_true, Bool.and_false]), h32, (hO31.dom (by intro k h1 _ _; (try dsimp only at h1); (repeat' first | (guard_hyp h1 : _ ∨ _; refine Or.elim h1 (fun h1 => ?_) (fun h1 => ?_)) | (guard_hyp h1 : _ ∧ _; have hx := h1.2; replace h1 := h1.1)) <;> first | contradiction | omega | (dsimp only; omega)))⟩⟩, by first | omega | (dsimp only; omega)⟩
  | true =>
   refine WL.lss rfl rfl rfl rfl hc21 ?_
   have hp21 := of_decide_eq_true hc21
   refine asg ?_
   refine WL.dn ?_
   refine cT ?_
   refine WC.region ?_
   refine mv ?_
   refine WL.fieldAddr rfl rfl Ty.fld49_1 rfl ?_
   refine WL.load_fld rfl rfl Ty.flat5 rfl hR18 rfl ?_
   refine WL.call rfl rfl rfl Ty.ent21 (letters_ok _ x11.2.1 (by omega)) ?_
   rintro _ w23 ⟨rfl, hE22⟩
   have hzhE22 := hE22.size
   refine ⟨_, rfl, ?_⟩
   refine WL.call rfl rfl rfl Ty.ent20 (class_ok _ (Nd.lettersS x11.2.1) (by first | decide | exact Nd.lettersS_len _)) ?_
   rintro _ w26 ⟨l24, rfl, hr24, hE25⟩
   have hzhE25 := hE25.size
   refine ⟨_, rfl, ?_⟩
   have hn24 := hr24.lt
   obtain ⟨a24, cap24, rfl, hts24, hlen24⟩ := hn24.op2
   refine WL.buildSlice (vs := [.agg (tcells (Nd.classS (Nd.lettersS x11.2.1)) (.slice a24 (Nd.classS (Nd.lettersS x11.2.1)).subs.length cap24)).toArray]) (cells := (tcells (Nd.classS (Nd.lettersS x11.2.1)) (.slice a24 (Nd.classS (Nd.lettersS x11.2.1)).subs.length cap24))) rfl rfl Ty.slice24 Ty.zero30 rfl rfl rfl rfl rfl rfl (fun b27 w32 hb28 hE31 hs29 hR30 => ?_)
   have hts27 := (NodesV.lit (n := 1) (ts := [(Nd.classS (Nd.lettersS x11.2.1))]) hR30 (RowsL.cons (hn24.ext hE31) (RowsL.nil' _)) rfl rfl (by decide)).lt
   have h33 := (((((hO.ext hE16).but hB19 (fun h1 => by first | omega | (dsimp only at h1; omega)) (fun hk => by have := (hO.ext hE16).own _ hk; have := hol _ hk; omega)).ext hE22).ext hE25).ext hE31)
   have hol34 := h33.own
   refine WL.append1 rfl rfl Ty.slice24 Ty.zero30 rfl small_node rfl rfl h33 hR30 (hn24.ext hE31) (by intro k h1 hh; have := hol34 _ hh; have := hol _ hh; first | omega | ((try dsimp only at h1); (repeat' first | (guard_hyp h1 : _ ∨ _; refine Or.elim h1 (fun h1 => ?_) (fun h1 => ?_)) | (guard_hyp h1 : _ ∧ _; have hx := h1.2; replace h1 := h1.1)) <;> first | contradiction | omega)) (by omega) (by omega) ?_
   intro v34 w34 hG34 hO34 hv34
   have hE34 := grown_below hG34 ((((hB19.onto (hE7.trans hE16) (by omega)).trans hE22).trans hE25).trans hE31) (by intro k hk; have := hol34 _ hk; omega)
   have hz34 := hE34.size
   have hzz34 := hG34.size
   refine asg ?_
   refine WL.dn ?_
   refine WC.region ?_
   refine WL.add (v := (k : Int) + 1) rfl rfl rfl rfl (IntWalk.i64_in _ (by omega)) ?_
   refine mv ?_
   refine WL.nil (fun a_ ha => ?_)
   have h35 := (grown_row hG34 ((((hB19.row (hR2.ext hE16) (by omega)).ext hE22).ext hE25).ext hE31) (fun hh => by have := hol34 _ hh; have := hol _ hh; omega))
   exact ⟨(k + 1, v34, ⟨pile ++ [(Nd.classS (Nd.lettersS x11.2.1))], u, gr⟩), _, ha.weaken (s4 (sr rfl (sr rfl (sr rfl (subReg_nil _))))), ⟨rfl, hE34, ⟨by first | omega | (dsimp only; omega), by omega, (by rw [Nd.madeSt_succ hx11, ← hst]; simp only [Nd.stepM, hc10, hc21, Nd.mostM, Nd.empty, Bool.or_true, Bool.true_or, Bool.or_false, Bool.false_or, cond_true, cond_false, Bool.true_and, Bool.false_and, Bool.and_true, Bool.and_false]), h35, (hO34.dom (by intro k h1 _ _; (try dsimp only at h1); (repeat' first | (guard_hyp h1 : _ ∨ _; refine Or.elim h1 (fun h1 => ?_) (fun h1 => ?_)) | (guard_hyp h1 : _ ∧ _; have hx := h1.2; replace h1 := h1.1)) <;> first | contradiction | omega | (dsimp only; omega)))⟩⟩, by first | omega | (dsimp only; omega)⟩
end Go.Proofs.Yteenegaadlhjdaa
namespace Go.Proofs.Yteenegaadlhjdaa
theorem WC.cutX {ro : Option Nat} {P : Program} {Q : Exit → Act → World → Prop} {N : Nat} {ds : List Deferred} {r : Reg} {w : World} {x y : Code} {σ : Type} (rr : σ → Reg) (I : σ → World → Prop)
    (h1 : WC ro P (Exit.then (fun a w' => ∃ s, Fits N ds (rr s) a ∧ Ext w w' ∧ I s w') Q) N ds x r w) (h2 : ∀ s w', Ext w w' → I s w' → WC ro P Q N ds y (rr s) w') : WC ro P Q N ds (.seq x y) r w := by
  refine WC.seqk (fun a ha => wpIn_mono (h1 a ha) ?_)
  intro e a' w' hq
  cases e with
  | normal => obtain ⟨s, h3, h4, h5⟩ := hq; exact h2 s w' h4 h5 a' h3
  | _ => exact hq
end Go.Proofs.Yteenegaadlhjdaa
namespace Go.Proofs.Yteenegaadlhjdaa
open Go.Proofs Go.RowKit
theorem made_at {A : Nd} {xs : List (Int × Int × Int)} (h : A = Nd.made xs) (D : Nat → Prop) (w : World) (a : Option Addr) (cap : Nat) (hxs : SmallV D w (.slice a xs.length cap) xs) :
  Calls Try.prog 7 #[.slice a xs.length cap] w fun e w' => ∃ l', e = .returned (.agg l'.toArray) ∧ NodeL (fun k => w.heap.size ≤ k) w' l' A ∧ Ext w w' := by
 subst h; exact made_ok D w a cap xs hxs
set_option maxRecDepth 20000 in
set_option maxHeartbeats 4000000 in
theorem counts1_ok (D : Nat → Prop) (w : World) (l : List Value) (T : Nd) (hT : NodeL D w l T) (hc : T.clean = true) (hfi : Nd.Fine T) (hs : T.sok = true) :
  Calls Try.prog 16 #[.agg l.toArray] w fun e w' => ∃ l', e = .returned (.agg l'.toArray) ∧ NodeL (fun k => w.heap.size ≤ k) w' l' (Nd.norm T) ∧ Ext w w' := by
 have hT := hT.lt
 obtain ⟨a, cap, rfl, hts, hlen⟩ := hT.op2
 refine Calls.enter (args := [.agg (tcells T (.slice a T.subs.length cap)).toArray]) Try.func16 rfl rfl rfl rfl ?_
 refine sq ?_
 refine WL.box_agg rfl rfl rfl (fun b1 w6 hb2 hE5 hs3 hR4 => ?_)
 refine WL.alloc rfl rfl Ty.zero30 rfl (fun b7 w12 hb8 hE11 hs9 hR10 => ?_)
 refine WL.dn ?_
 refine sq ?_
 refine WL.load_box rfl rfl rfl (hR4.ext hE11) Ty.agg30 ?_
 have h14 := ((hT.ext hE5).ext hE11)
 refine WL.call rfl rfl rfl Ty.ent9 (Norm_okC h14 hc hfi hs) ?_
 rintro _ w16 ⟨l13, rfl, hr13, hE15⟩
 have hzhE15 := hE15.size
 refine ⟨_, rfl, ?_⟩
 rw [show Nd.norm T = Nd.norm T from rfl] at hr13
 have hn13 := hr13.lt
 obtain ⟨a13, cap13, rfl, hts13, hlen13⟩ := hn13.op2
 refine mv ?_
 refine WL.extract rfl rfl rfl rfl ?_
 refine WL.extract rfl rfl rfl rfl ?_
 refine WL.alloc rfl rfl Ty.zero30 rfl (fun b17 w22 hb18 hE21 hs19 hR20 => ?_)
 refine WL.store_box rfl rfl rfl hR20 Ty.agg30 rfl rfl (fun w25 hB24 hR23 => ?_)
 have hzhB24 := hB24.size
 refine asg ?_
 refine WL.dn ?_
 refine WC.seqk ?_
 refine WC.seqk ?_
 refine WC.weaken (r' := [(2, pt b7 0), (3, pt b17 0), (4, .int .i64 0)]) (sr rfl (sr rfl (sr rfl (subReg_nil _)))) ?_
 refine WC.region ?_
 refine mv ?_
 refine WL.neq rfl rfl rfl rfl rfl ?_
 refine WL.dn ?_
 refine cF ?_
 refine WC.sk ?_
 refine sq ?_
 refine WL.load_box rfl rfl rfl hR23 Ty.agg30 ?_
 have h28 := (hB24.row ((hR10.ext hE15).ext hE21) (by omega))
 refine WL.store_box rfl rfl rfl h28 Ty.agg30 rfl rfl (fun w29 hB27 hR26 => ?_)
 have hzhB27 := hB27.size
 refine WL.dn ?_
 refine WC.ret (fun a_ ha => ?_)
 have h30 := (((hn13.ext hE21).bu hB24).bu hB27)
 exact bodyPost_cell (l := (tcells (Nd.norm T) (.slice a13 (Nd.norm T).subs.length cap13))) rfl ha rfl Ty.agg30 hR26 ⟨_, rfl, (h30.dom (by intro k hk; (try dsimp only at hk); first | omega | exact hk.1.elim)), (hB27.onto (hB24.onto (((hE5.trans hE11).trans hE15).trans hE21) (by omega)) (by omega))⟩
set_option maxRecDepth 20000 in
set_option maxHeartbeats 4000000 in
theorem RxnormCounts_ok (w : World) (Dxs : Nat → Prop) (axs : Option Addr) (capxs : Nat) (xs : List (Int × Int × Int)) (hxxs : SmallV Dxs w (.slice axs xs.length capxs) xs) :
  Calls Try.prog 5 #[.slice axs xs.length capxs] w fun e w' => e = .returned (.bool true) ∧ Ext w w' := by
 have hBxs : Nd.Bytes xs := fun q hq => by have := hxxs.2 q hq; omega
 obtain ⟨M, hM⟩ : ∃ T, T = Nd.made xs := ⟨_, rfl⟩
 have hmM : Nd.MadeOk M := hM ▸ Nd.made_ok' hBxs
 have hsM : Nd.Sm M := ⟨⟨hmM.nice, hM ▸ Nd.made_sok xs⟩, hmM.size⟩
 obtain ⟨A, hA⟩ : ∃ T, T = Nd.norm M := ⟨_, rfl⟩
 refine Calls.enter (args := [.slice axs xs.length capxs]) Try.func5 rfl rfl rfl rfl ?_
 refine sq ?_
 refine asg ?_
 refine WL.dn ?_
 refine WC.seqk ?_
 refine sq ?_
 refine WL.call rfl rfl rfl Ty.ent6 (awake11_ok _) ?_
 rintro _ w3 ⟨rfl, hE2⟩
 have hzhE2 := hE2.size
 refine ⟨_, rfl, ?_⟩
 refine WL.not rfl rfl rfl ?_
 refine WL.dn ?_
 refine cF ?_
 refine WC.sk ?_
 refine sq ?_
 refine mv ?_
 refine WL.call rfl rfl rfl Ty.ent7 (made_at hM _ _ _ _ (hxxs.ext hE2)) ?_
 rintro _ w6 ⟨l4, rfl, hr4, hE5⟩
 have hzhE5 := hE5.size
 refine ⟨_, rfl, ?_⟩
 have hn4 := hr4.lt
 obtain ⟨a4, cap4, rfl, hts4, hlen4⟩ := hn4.op2
 refine WL.call rfl rfl rfl Ty.ent9 (Norm_okC hn4 hsM.fine.clean hsM.fine hsM.ok.2) ?_
 rintro _ w9 ⟨l7, rfl, hr7, hE8⟩
 have hzhE8 := hE8.size
 refine ⟨_, rfl, ?_⟩
 rw [hA.symm] at hr7
 have hn7 := hr7.lt
 obtain ⟨a7, cap7, rfl, hts7, hlen7⟩ := hn7.op2
 refine mv ?_
 refine WL.extract rfl rfl rfl rfl ?_
 refine WL.extract rfl rfl rfl rfl ?_
 refine WL.alloc rfl rfl Ty.zero30 rfl (fun b10 w15 hb11 hE14 hs12 hR13 => ?_)
 refine WL.store_box rfl rfl rfl hR13 Ty.agg30 rfl rfl (fun w18 hB17 hR16 => ?_)
 have hzhB17 := hB17.size
 refine asg ?_
 refine WL.dn ?_
 refine WC.seqk ?_
 refine WC.seqk ?_
 refine WC.weaken (r' := [(2, .bool false), (12, .bool false), (3, pt b10 0), (4, .int .i64 0)]) (s4 (subReg_nil _)) ?_
 refine WC.region ?_
 refine mv ?_
 refine WL.neq rfl rfl rfl rfl rfl ?_
 refine WL.dn ?_
 refine cF ?_
 refine WC.sk ?_
 refine WC.seqk ?_
 refine sq ?_
 refine WL.load_box rfl rfl rfl hR16 Ty.agg30 ?_
 have h19 := ((hn7.ext hE14).bu hB17)
 refine WL.call rfl rfl rfl Ty.ent8 (Plain_ok _ _ _ A h19) ?_
 rintro _ w21 ⟨rfl, hE20⟩
 have hzhE20 := hE20.size
 refine ⟨_, rfl, ?_⟩
 cases hc22 : Nd.clean A && Nd.plain A with
 | false =>
  refine WL.not rfl rfl rfl ?_
  refine mv ?_
  refine ps ?_
  refine ps ?_
  refine ps ?_
  refine pT ?_
  refine WL.dn ?_
  refine cT ?_
  refine WC.seqk ?_
  refine WC.weaken (r' := [(2, .bool false), (12, .bool false), (3, pt b10 0), (20, .bool false), (28, .bool true)]) (s4 (sr rfl (subReg_nil _))) ?_
  refine WC.region ?_
  refine asg ?_
  refine WL.dn ?_
  refine WC.ret (fun a_ ha => ?_)
  refine ret_then ?_
  exact bodyPost_tmp rfl ha rfl ⟨rfl, ((hB17.onto (((hE2.trans hE5).trans hE8).trans hE14) (by omega)).trans hE20)⟩
 | true =>
  refine WL.not rfl rfl rfl ?_
  refine mv ?_
  refine WL.fieldAddr rfl rfl Ty.fld30_0 rfl ?_
  refine WL.load_fld rfl rfl Ty.flat5 rfl (hR16.ext hE20) rfl ?_
  cases hc23 : ((A.kind : Int) == 1) with
  | false =>
   refine WL.eql rfl rfl rfl rfl hc23 ?_
   have hp23 := beq_eq_false_iff_ne.1 hc23
   refine pF ?_
   refine WL.dn ?_
   refine cF ?_
   refine WC.sk ?_
   refine WC.seqk ?_
   have hC : Nd.Cn 50 A := by rw [hA]; exact Nd.Cn.of hsM (by rw [← hA]; exact Nd.and_snd hc22) (by rw [← hA]; exact beq_eq_false_iff_ne.1 hc23)
   have hE := hC.eqs (by omega)
   have hO := hC.tm (by omega) (b := Nd.opt) rfl
   have hS := hC.tm (by omega) (b := Nd.star) rfl
   have hP := hC.tm (by omega) (b := Nd.plus) rfl
   refine WC.weaken (r' := [(2, .bool false), (12, .bool false), (3, pt b10 0), (20, .bool false), (28, .bool false)]) (s4 (sr rfl (subReg_nil _))) ?_
   refine WC.region ?_
   refine asg ?_
   refine WL.dn ?_
   refine WC.cutX (fun s : Nat × List Value × Nat × List Value × Nat × List Value => [(2, .bool false), (12, .bool false), (3, pt b10 0), (20, .bool false), (28, .bool false), (5, .func (.func 16) #[] #[]), (6, pt s.1 0), (7, pt s.2.2.1 0), (8, pt s.2.2.2.2.1 0)]) (fun s w_ => Row w_ (s.1) (s.2.1) 30 ∧ NodeL (fun _ => True) w_ (s.2.1) (Nd.timesN A Nd.opt) ∧ Row w_ (s.2.2.1) (s.2.2.2.1) 30 ∧ NodeL (fun _ => True) w_ (s.2.2.2.1) (Nd.timesN A Nd.star) ∧ Row w_ (s.2.2.2.2.1) (s.2.2.2.2.2) 30 ∧ NodeL (fun _ => True) w_ (s.2.2.2.2.2) (Nd.timesN A Nd.plus)) ?_ ?_
   ·skip
    refine WC.weaken (r' := [(2, .bool false), (12, .bool false), (3, pt b10 0), (20, .bool false), (28, .bool false), (5, .func (.func 16) #[] #[])]) (s4 (sr rfl (sr rfl (subReg_nil _)))) ?_
    refine WC.drawL 15 [29, 30, 31, 32, 33, 34, 35, 36, 37, 38, 39, 40, 6, 7, 8] [pc (.func (.func 16) #[] #[]), pc (.agg (tcells A (.slice a7 A.subs.length cap7)).toArray), pnode (fun k => w21.heap.size ≤ k) (Nd.R Nd.opt A), pnode (fun k => w21.heap.size ≤ k) (Nd.timesN A Nd.opt), pc (.func (.func 16) #[] #[]), pc (.agg (tcells A (.slice a7 A.subs.length cap7)).toArray), pnode (fun k => w21.heap.size ≤ k) (Nd.R Nd.star A), pnode (fun k => w21.heap.size ≤ k) (Nd.timesN A Nd.star), pc (.func (.func 16) #[] #[]), pc (.agg (tcells A (.slice a7 A.subs.length cap7)).toArray), pnode (fun k => w21.heap.size ≤ k) (Nd.R Nd.plus A), pnode (fun k => w21.heap.size ≤ k) (Nd.timesN A Nd.plus), palloc 6 (zc 0 0 0 (.slice none 0 0)) 30, palloc 7 (zc 0 0 0 (.slice none 0 0)) 30, palloc 8 (zc 0 0 0 (.slice none 0 0)) 30] 5 [16, 17] _ _ rfl rfl (by kernel_rfl) (by kernel_rfl) ⟨KW_pc _, KW_pc _, KW_pnode _ _, KW_pnode _ _, KW_pc _, KW_pc _, KW_pnode _ _, KW_pnode _ _, KW_pc _, KW_pc _, KW_pnode _ _, KW_pnode _ _, KW_palloc _ _ _, KW_palloc _ _ _, KW_palloc _ _ _, trivial⟩ rfl rfl rfl (sc4 ?_ ?_ ?_ ?_ (sc4 ?_ ?_ ?_ ?_ (sc4 ?_ ?_ ?_ ?_ (sc ?_ (sc ?_ (sc ?_ (StepsOn.nil _))))))) ?_ ?_
    ·intro σ β w1 hE1 hbi hk
     refine ⟨[], (agree_nil _), ?_⟩
     refine mv ?_
     exact dq hbi rfl
    ·intro σ β w1 hE1 hbi hk
     refine ⟨[], (agree_nil _), ?_⟩
     have h44 := ((hR16.ext hE20).ext hE1)
     refine WL.load_box rfl rfl rfl h44 Ty.agg30 ?_
     exact dq hbi rfl
    ·intro σ β w1 hE1 hbi hk
     have hz1 := hE1.size
     refine ⟨[(30, .agg (tcells A (.slice a7 A.subs.length cap7)).toArray)], (ak hk 1 (agree_nil _)), ?_⟩
     have h45 := ((h19.ext hE20).ext hE1)
     refine WL.call rfl rfl rfl Ty.ent17 (times_ok _ _ _ A 0 1 h45) ?_
     rintro _ w48 ⟨l46, rfl, hr46, hE47⟩
     have hzhE47 := hE47.size
     refine ⟨_, rfl, ?_⟩
     rw [hC.opt (by omega)] at hr46
     have hn46 := hr46.lt
     obtain ⟨a46, cap46, rfl, hts46, hlen46⟩ := hn46.op2
     exact dqE hbi hE47 ⟨_, rfl, (hr46.off0 hbi (fun k hk => Nat.le_trans hE1.size hk))⟩
    ·intro σ β w1 hE1 hbi hk
     have hz1 := hE1.size
     obtain ⟨_, hv45, l45, rfl, hn45⟩ := kn hk 2 rfl rfl
     have hn45 := hn45.lt
     obtain ⟨a45, cap45, rfl, hts45, hlen45⟩ := hn45.op2
     refine ⟨[(29, .func (.func 16) #[] #[]), (31, .agg (tcells (Nd.R Nd.opt A) (.slice a45 (Nd.R Nd.opt A).subs.length cap45)).toArray)], (ak hk 0 (ag hv45 (agree_nil _))), ?_⟩
     refine WL.callv rfl rfl rfl rfl Ty.ent16 (Calls.caps0 (counts1_ok _ _ _ (Nd.R Nd.opt A) hn45 (hC.R (by omega) (b := Nd.opt) rfl).1.clean (hC.R (by omega) (b := Nd.opt) rfl).1 (hC.R (by omega) (b := Nd.opt) rfl).2)) ?_
     rintro _ w48 ⟨l46, rfl, hr46, hE47⟩
     refine ⟨_, rfl, ?_⟩
     rw [hC.norm Nd.opt] at hr46
     have hn46 := hr46.lt
     obtain ⟨a46, cap46, rfl, hts46, hlen46⟩ := hn46.op2
     exact dqE hbi hE47 ⟨_, rfl, (hr46.off0 hbi (fun k hk => Nat.le_trans hE1.size hk))⟩
    ·intro σ β w1 hE1 hbi hk
     refine ⟨[], (agree_nil _), ?_⟩
     refine mv ?_
     exact dq hbi rfl
    ·intro σ β w1 hE1 hbi hk
     refine ⟨[], (agree_nil _), ?_⟩
     have h44 := ((hR16.ext hE20).ext hE1)
     refine WL.load_box rfl rfl rfl h44 Ty.agg30 ?_
     exact dq hbi rfl
    ·intro σ β w1 hE1 hbi hk
     have hz1 := hE1.size
     refine ⟨[(34, .agg (tcells A (.slice a7 A.subs.length cap7)).toArray)], (ak hk 5 (agree_nil _)), ?_⟩
     have h45 := ((h19.ext hE20).ext hE1)
     refine WL.call rfl rfl rfl Ty.ent17 (times_ok _ _ _ A 0 (-1) h45) ?_
     rintro _ w48 ⟨l46, rfl, hr46, hE47⟩
     have hzhE47 := hE47.size
     refine ⟨_, rfl, ?_⟩
     rw [hC.star (by omega)] at hr46
     have hn46 := hr46.lt
     obtain ⟨a46, cap46, rfl, hts46, hlen46⟩ := hn46.op2
     exact dqE hbi hE47 ⟨_, rfl, (hr46.off0 hbi (fun k hk => Nat.le_trans hE1.size hk))⟩
    ·intro σ β w1 hE1 hbi hk
     have hz1 := hE1.size
     obtain ⟨_, hv45, l45, rfl, hn45⟩ := kn hk 6 rfl rfl
     have hn45 := hn45.lt
     obtain ⟨a45, cap45, rfl, hts45, hlen45⟩ := hn45.op2
     refine ⟨[(33, .func (.func 16) #[] #[]), (35, .agg (tcells (Nd.R Nd.star A) (.slice a45 (Nd.R Nd.star A).subs.length cap45)).toArray)], (ak hk 4 (ag hv45 (agree_nil _))), ?_⟩
     refine WL.callv rfl rfl rfl rfl Ty.ent16 (Calls.caps0 (counts1_ok _ _ _ (Nd.R Nd.star A) hn45 (hC.R (by omega) (b := Nd.star) rfl).1.clean (hC.R (by omega) (b := Nd.star) rfl).1 (hC.R (by omega) (b := Nd.star) rfl).2)) ?_
     rintro _ w48 ⟨l46, rfl, hr46, hE47⟩
     refine ⟨_, rfl, ?_⟩
     rw [hC.norm Nd.star] at hr46
     have hn46 := hr46.lt
     obtain ⟨a46, cap46, rfl, hts46, hlen46⟩ := hn46.op2
     exact dqE hbi hE47 ⟨_, rfl, (hr46.off0 hbi (fun k hk => Nat.le_trans hE1.size hk))⟩
    ·intro σ β w1 hE1 hbi hk
     refine ⟨[], (agree_nil _), ?_⟩
     refine mv ?_
     exact dq hbi rfl
    ·intro σ β w1 hE1 hbi hk
     refine ⟨[], (agree_nil _), ?_⟩
     have h44 := ((hR16.ext hE20).ext hE1)
     refine WL.load_box rfl rfl rfl h44 Ty.agg30 ?_
     exact dq hbi rfl
    ·intro σ β w1 hE1 hbi hk
     have hz1 := hE1.size
     refine ⟨[(38, .agg (tcells A (.slice a7 A.subs.length cap7)).toArray)], (ak hk 9 (agree_nil _)), ?_⟩
     have h45 := ((h19.ext hE20).ext hE1)
     refine WL.call rfl rfl rfl Ty.ent17 (times_ok _ _ _ A 1 (-1) h45) ?_
     rintro _ w48 ⟨l46, rfl, hr46, hE47⟩
     have hzhE47 := hE47.size
     refine ⟨_, rfl, ?_⟩
     rw [hC.plus (by omega)] at hr46
     have hn46 := hr46.lt
     obtain ⟨a46, cap46, rfl, hts46, hlen46⟩ := hn46.op2
     exact dqE hbi hE47 ⟨_, rfl, (hr46.off0 hbi (fun k hk => Nat.le_trans hE1.size hk))⟩
    ·intro σ β w1 hE1 hbi hk
     have hz1 := hE1.size
     obtain ⟨_, hv45, l45, rfl, hn45⟩ := kn hk 10 rfl rfl
     have hn45 := hn45.lt
     obtain ⟨a45, cap45, rfl, hts45, hlen45⟩ := hn45.op2
     refine ⟨[(37, .func (.func 16) #[] #[]), (39, .agg (tcells (Nd.R Nd.plus A) (.slice a45 (Nd.R Nd.plus A).subs.length cap45)).toArray)], (ak hk 8 (ag hv45 (agree_nil _))), ?_⟩
     refine WL.callv rfl rfl rfl rfl Ty.ent16 (Calls.caps0 (counts1_ok _ _ _ (Nd.R Nd.plus A) hn45 (hC.R (by omega) (b := Nd.plus) rfl).1.clean (hC.R (by omega) (b := Nd.plus) rfl).1 (hC.R (by omega) (b := Nd.plus) rfl).2)) ?_
     rintro _ w48 ⟨l46, rfl, hr46, hE47⟩
     refine ⟨_, rfl, ?_⟩
     rw [hC.norm Nd.plus] at hr46
     have hn46 := hr46.lt
     obtain ⟨a46, cap46, rfl, hts46, hlen46⟩ := hn46.op2
     exact dqE hbi hE47 ⟨_, rfl, (hr46.off0 hbi (fun k hk => Nat.le_trans hE1.size hk))⟩
    ·intro σ β w1 hE1 hbi hk
     refine ⟨[], (agree_nil _), ?_⟩
     refine WL.alloc rfl rfl Ty.zero30 rfl (fun b44 w49 hb45 hE48 hs46 hR47 => ?_)
     refine WL.nil (fun a_ ha => ?_)
     exact ⟨_, (6, b44) :: β, ha, hE48, BExt.cons (Nat.le_of_eq hb45.symm), hbi.cons hE48 hE1.size (Nat.le_of_eq hb45.symm) hR47.lt, b44, rfl, hR47, .head _⟩
    ·intro σ β w1 hE1 hbi hk
     refine ⟨[], (agree_nil _), ?_⟩
     refine WL.alloc rfl rfl Ty.zero30 rfl (fun b44 w49 hb45 hE48 hs46 hR47 => ?_)
     refine WL.nil (fun a_ ha => ?_)
     exact ⟨_, (7, b44) :: β, ha, hE48, BExt.cons (Nat.le_of_eq hb45.symm), hbi.cons hE48 hE1.size (Nat.le_of_eq hb45.symm) hR47.lt, b44, rfl, hR47, .head _⟩
    ·intro σ β w1 hE1 hbi hk
     refine ⟨[], (agree_nil _), ?_⟩
     refine WL.alloc rfl rfl Ty.zero30 rfl (fun b44 w49 hb45 hE48 hs46 hR47 => ?_)
     refine WL.nil (fun a_ ha => ?_)
     exact ⟨_, (8, b44) :: β, ha, hE48, BExt.cons (Nat.le_of_eq hb45.symm), hbi.cons hE48 hE1.size (Nat.le_of_eq hb45.symm) hR47.lt, b44, rfl, hR47, .head _⟩
    ·skip
     intro σ β w24 hE24 hbi24 hk
     have hz24 := hE24.size
     have hbi := hbi24
     obtain ⟨_, hv25, b25, rfl, hR25, hm25⟩ := hk 12 (by decide) _ _ rfl rfl
     have hlo25 := hbi.lo _ hm25
     have hhi25 := hbi.hi _ hm25
     obtain ⟨_, hv26, b26, rfl, hR26, hm26⟩ := hk 13 (by decide) _ _ rfl rfl
     have hlo26 := hbi.lo _ hm26
     have hhi26 := hbi.hi _ hm26
     have hne26_25 : b26 ≠ b25 := fun h => by have := hbi.one _ _ hm26 hm25 h; simp at this
     have hne25_26 := hne26_25.symm
     obtain ⟨_, hv27, b27, rfl, hR27, hm27⟩ := hk 14 (by decide) _ _ rfl rfl
     have hlo27 := hbi.lo _ hm27
     have hhi27 := hbi.hi _ hm27
     have hne27_25 : b27 ≠ b25 := fun h => by have := hbi.one _ _ hm27 hm25 h; simp at this
     have hne25_27 := hne27_25.symm
     have hne27_26 : b27 ≠ b26 := fun h => by have := hbi.one _ _ hm27 hm26 h; simp at this
     have hne26_27 := hne27_26.symm
     obtain ⟨_, hv28, l28, rfl, hn28⟩ := hk 3 (by decide) _ _ rfl rfl
     have hn28 := hn28.dom (D' := fun k => ((w21.heap.size ≤ k) ∧ b25 ≠ k ∧ b26 ≠ k ∧ b27 ≠ k) ∧ k < w24.heap.size) (fun k h => ⟨⟨h.1, h.2.1 _ hm25, h.2.1 _ hm26, h.2.1 _ hm27⟩, h.2.2⟩)
     obtain ⟨a28, cap28, rfl, hts28, hlen28⟩ := hn28.op2
     obtain ⟨_, hv29, l29, rfl, hn29⟩ := hk 7 (by decide) _ _ rfl rfl
     have hn29 := hn29.dom (D' := fun k => ((w21.heap.size ≤ k) ∧ b25 ≠ k ∧ b26 ≠ k ∧ b27 ≠ k) ∧ k < w24.heap.size) (fun k h => ⟨⟨h.1, h.2.1 _ hm25, h.2.1 _ hm26, h.2.1 _ hm27⟩, h.2.2⟩)
     obtain ⟨a29, cap29, rfl, hts29, hlen29⟩ := hn29.op2
     obtain ⟨_, hv30, l30, rfl, hn30⟩ := hk 11 (by decide) _ _ rfl rfl
     have hn30 := hn30.dom (D' := fun k => ((w21.heap.size ≤ k) ∧ b25 ≠ k ∧ b26 ≠ k ∧ b27 ≠ k) ∧ k < w24.heap.size) (fun k h => ⟨⟨h.1, h.2.1 _ hm25, h.2.1 _ hm26, h.2.1 _ hm27⟩, h.2.2⟩)
     obtain ⟨a30, cap30, rfl, hts30, hlen30⟩ := hn30.op2
     refine WL.know [(6, pt b25 0), (7, pt b26 0), (8, pt b27 0), (32, .agg (tcells (Nd.timesN A Nd.opt) (.slice a28 (Nd.timesN A Nd.opt).subs.length cap28)).toArray), (36, .agg (tcells (Nd.timesN A Nd.star) (.slice a29 (Nd.timesN A Nd.star).subs.length cap29)).toArray), (40, .agg (tcells (Nd.timesN A Nd.plus) (.slice a30 (Nd.timesN A Nd.plus).subs.length cap30)).toArray)] (ag hv25 (ag hv26 (ag hv27 (ag hv28 (ag hv29 (ag hv30 (agree_nil _))))))) ?_
     refine WL.store_box rfl rfl rfl hR25 Ty.agg30 rfl rfl (fun w33 hB32 hR31 => ?_)
     have hzhB32 := hB32.size
     refine WL.store_box rfl rfl rfl (hB32.row hR26 (by omega)) Ty.agg30 rfl rfl (fun w36 hB35 hR34 => ?_)
     have hzhB35 := hB35.size
     have h39 := (hB35.row (hB32.row hR27 (by omega)) (by omega))
     refine WL.store_box rfl rfl rfl h39 Ty.agg30 rfl rfl (fun w40 hB38 hR37 => ?_)
     have hzhB38 := hB38.size
     refine WL.nil (fun a_ ha => ?_)
     have h41 := (hB38.row (hB35.row hR31 (by omega)) (by omega))
     have h42 := (((hn28.bu hB32).bu hB35).bu hB38)
     have h43 := (((hn29.bu hB32).bu hB35).bu hB38)
     have h44 := (((hn30.bu hB32).bu hB35).bu hB38)
     exact ⟨(b25, (tcells (Nd.timesN A Nd.opt) (.slice a28 (Nd.timesN A Nd.opt).subs.length cap28)), b26, (tcells (Nd.timesN A Nd.star) (.slice a29 (Nd.timesN A Nd.star).subs.length cap29)), b27, (tcells (Nd.timesN A Nd.plus) (.slice a30 (Nd.timesN A Nd.plus).subs.length cap30))), ha.weaken (s4 (s4 (sr rfl (subReg_nil _)))), (hB38.onto (hB35.onto (hB32.onto hE24 (by omega)) (by omega)) (by omega)), h41, (h42.dom (fun _ _ => trivial)), (hB38.row hR34 (by omega)), (h43.dom (fun _ _ => trivial)), hR37, (h44.dom (fun _ _ => trivial))⟩
    ·skip
     intro σ β w7024 hE7024 hbi7024 hk
     have hz7024 := hE7024.size
     have hbi := hbi7024
     obtain ⟨_, hv7025, b7025, rfl, hR7025, hm7025⟩ := hk 12 (by decide) (by decide) _ _ rfl rfl
     have hlo7025 := hbi.lo _ hm7025
     have hhi7025 := hbi.hi _ hm7025
     obtain ⟨_, hv7026, b7026, rfl, hR7026, hm7026⟩ := hk 13 (by decide) (by decide) _ _ rfl rfl
     have hlo7026 := hbi.lo _ hm7026
     have hhi7026 := hbi.hi _ hm7026
     have hne7026_7025 : b7026 ≠ b7025 := fun h => by have := hbi.one _ _ hm7026 hm7025 h; simp at this
     have hne7025_7026 := hne7026_7025.symm
     obtain ⟨_, hv7027, b7027, rfl, hR7027, hm7027⟩ := hk 14 (by decide) (by decide) _ _ rfl rfl
     have hlo7027 := hbi.lo _ hm7027
     have hhi7027 := hbi.hi _ hm7027
     have hne7027_7025 : b7027 ≠ b7025 := fun h => by have := hbi.one _ _ hm7027 hm7025 h; simp at this
     have hne7025_7027 := hne7027_7025.symm
     have hne7027_7026 : b7027 ≠ b7026 := fun h => by have := hbi.one _ _ hm7027 hm7026 h; simp at this
     have hne7026_7027 := hne7027_7026.symm
     obtain ⟨_, hv7028, l7028, rfl, hn7028⟩ := hk 3 (by decide) (by decide) _ _ rfl rfl
     have hn7028 := hn7028.dom (D' := fun k => ((w21.heap.size ≤ k) ∧ b7025 ≠ k ∧ b7026 ≠ k ∧ b7027 ≠ k) ∧ k < w7024.heap.size) (fun k h => ⟨⟨h.1, h.2.1 _ hm7025, h.2.1 _ hm7026, h.2.1 _ hm7027⟩, h.2.2⟩)
     obtain ⟨a7028, cap7028, rfl, hts7028, hlen7028⟩ := hn7028.op2
     obtain ⟨_, hv7029, l7029, rfl, hn7029⟩ := hk 7 (by decide) (by decide) _ _ rfl rfl
     have hn7029 := hn7029.dom (D' := fun k => ((w21.heap.size ≤ k) ∧ b7025 ≠ k ∧ b7026 ≠ k ∧ b7027 ≠ k) ∧ k < w7024.heap.size) (fun k h => ⟨⟨h.1, h.2.1 _ hm7025, h.2.1 _ hm7026, h.2.1 _ hm7027⟩, h.2.2⟩)
     obtain ⟨a7029, cap7029, rfl, hts7029, hlen7029⟩ := hn7029.op2
     obtain ⟨_, hv7030, l7030, rfl, hn7030⟩ := hk 11 (by decide) (by decide) _ _ rfl rfl
     have hn7030 := hn7030.dom (D' := fun k => ((w21.heap.size ≤ k) ∧ b7025 ≠ k ∧ b7026 ≠ k ∧ b7027 ≠ k) ∧ k < w7024.heap.size) (fun k h => ⟨⟨h.1, h.2.1 _ hm7025, h.2.1 _ hm7026, h.2.1 _ hm7027⟩, h.2.2⟩)
     obtain ⟨a7030, cap7030, rfl, hts7030, hlen7030⟩ := hn7030.op2
     refine WL.know [(6, pt b7025 0), (7, pt b7026 0), (8, pt b7027 0), (32, .agg (tcells (Nd.timesN A Nd.opt) (.slice a7028 (Nd.timesN A Nd.opt).subs.length cap7028)).toArray), (36, .agg (tcells (Nd.timesN A Nd.star) (.slice a7029 (Nd.timesN A Nd.star).subs.length cap7029)).toArray), (40, .agg (tcells (Nd.timesN A Nd.plus) (.slice a7030 (Nd.timesN A Nd.plus).subs.length cap7030)).toArray)] (ag hv7025 (ag hv7026 (ag hv7027 (ag hv7028 (ag hv7029 (ag hv7030 (agree_nil _))))))) ?_
     refine WL.store_box rfl rfl rfl hR7025 Ty.agg30 rfl rfl (fun w7033 hB7032 hR7031 => ?_)
     have hzhB7032 := hB7032.size
     have h7034 := (hB7032.row ((hR16.ext hE20).ext hE7024) (by omega))
     refine WL.load_box rfl rfl rfl h7034 Ty.agg30 ?_
     refine WL.store_box rfl rfl rfl (hB7032.row hR7026 (by omega)) Ty.agg30 rfl rfl (fun w7037 hB7036 hR7035 => ?_)
     have hzhB7036 := hB7036.size
     have h7040 := (hB7036.row (hB7032.row hR7027 (by omega)) (by omega))
     refine WL.store_box rfl rfl rfl h7040 Ty.agg30 rfl rfl (fun w7041 hB7039 hR7038 => ?_)
     have hzhB7039 := hB7039.size
     refine WL.nil (fun a_ ha => ?_)
     have h7042 := (hB7039.row (hB7036.row hR7031 (by omega)) (by omega))
     have h7043 := (((hn7028.bu hB7032).bu hB7036).bu hB7039)
     have h7044 := (((hn7029.bu hB7032).bu hB7036).bu hB7039)
     have h7045 := (((hn7030.bu hB7032).bu hB7036).bu hB7039)
     exact ⟨(b7025, (tcells (Nd.timesN A Nd.opt) (.slice a7028 (Nd.timesN A Nd.opt).subs.length cap7028)), b7026, (tcells (Nd.timesN A Nd.star) (.slice a7029 (Nd.timesN A Nd.star).subs.length cap7029)), b7027, (tcells (Nd.timesN A Nd.plus) (.slice a7030 (Nd.timesN A Nd.plus).subs.length cap7030))), ha.weaken (s4 (s4 (sr rfl (subReg_nil _)))), (hB7039.onto (hB7036.onto (hB7032.onto hE7024 (by omega)) (by omega)) (by omega)), h7042, (h7043.dom (fun _ _ => trivial)), (hB7039.row hR7035 (by omega)), (h7044.dom (fun _ _ => trivial)), hR7038, (h7045.dom (fun _ _ => trivial))⟩
   rintro ⟨b24, l24, b25, l25, b26, l26⟩ w28 hE27 ⟨hR24, hn24, hR25, hn25, hR26, hn26⟩
   have hzhE27 := hE27.size
   dsimp only at *
   have hn24 := hn24.lt
   have hbl24 := hR24.lt
   obtain ⟨a24, cap24, rfl, hts24, hlen24⟩ := hn24.op2
   have hn25 := hn25.lt
   have hbl25 := hR25.lt
   obtain ⟨a25, cap25, rfl, hts25, hlen25⟩ := hn25.op2
   have hn26 := hn26.lt
   have hbl26 := hR26.lt
   obtain ⟨a26, cap26, rfl, hts26, hlen26⟩ := hn26.op2
   refine WC.weaken (r' := [(2, .bool false), (12, .bool false), (3, pt b10 0), (20, .bool false), (28, .bool false), (5, .func (.func 16) #[] #[]), (6, pt b24 0), (7, pt b25 0), (8, pt b26 0)]) (s4 (s4 (sr rfl (subReg_nil _)))) ?_
   refine WC.seqk ?_
   refine WC.cutE [(2, .bool false), (12, .bool false), (3, pt b10 0), (20, .bool false), (28, .bool false), (5, .func (.func 16) #[] #[]), (6, pt b24 0), (7, pt b25 0), (8, pt b26 0), (71, .bool false)] ?_ ?_
   ·skip
    cases hc20029 : Nd.clean A && Nd.nullable A with
    | false =>
     have h20030 := ((hR16.ext hE20).ext hE27)
     have h20031 := ((h19.ext hE20).ext hE27)
     refine WC.weaken (r' := [(2, .bool false), (12, .bool false), (3, pt b10 0), (20, .bool false), (28, .bool false), (5, .func (.func 16) #[] #[]), (6, pt b24 0), (7, pt b25 0), (8, pt b26 0)]) (s4 (s4 (sr rfl (subReg_nil _)))) ?_
     refine WC.draw 31 [41, 42, 43, 44, 45, 46, 47, 48, 49, 50, 51, 52, 53, 54, 55, 56, 57, 58, 59, 60, 61, 62, 63, 64, 65, 66, 67, 68, 69, 70, 71] [pc (.agg (tcells A (.slice a7 A.subs.length cap7)).toArray), pc (.bool false), pc (.bool false), pc (undef), pc (undef), pc (undef), pc (undef), pc (undef), pc (undef), pc (undef), pc (undef), pc (undef), pc (undef), pc (.bool false), pc (.bool false), pc (.agg (tcells (Nd.timesN A Nd.opt) (.slice a24 (Nd.timesN A Nd.opt).subs.length cap24)).toArray), pc (.bool true), pc (.bool false), pc (.bool false), pc (.bool false), pc (.agg (tcells (Nd.timesN A Nd.star) (.slice a25 (Nd.timesN A Nd.star).subs.length cap25)).toArray), pc (.bool true), pc (.bool false), pc (.bool false), pc (.bool false), pc (.agg (tcells (Nd.timesN A Nd.plus) (.slice a26 (Nd.timesN A Nd.plus).subs.length cap26)).toArray), pc (.bool (Nd.clean (Nd.timesN A Nd.plus) && Nd.nullable (Nd.timesN A Nd.plus))), pc (.agg (tcells A (.slice a7 A.subs.length cap7)).toArray), pc (.bool false), pc (.bool false), pc (.bool false)] (by kernel_rfl) (by kernel_rfl) (k4 (k4 (k4 (k4 (k4 (k4 (k4 ⟨KW_pc _, KW_pc _, KW_pc _, trivial⟩))))))) rfl rfl rfl (sc4 ?_ ?_ ?_ ?_ (sc4 ?_ ?_ ?_ ?_ (sc4 ?_ ?_ ?_ ?_ (sc4 ?_ ?_ ?_ ?_ (sc4 ?_ ?_ ?_ ?_ (sc4 ?_ ?_ ?_ ?_ (sc4 ?_ ?_ ?_ ?_ (sc ?_ (sc ?_ (sc ?_ (StepsOn.nil _))))))))))) ?_
     ·intro σ β w1 hE1 hbi hk
      refine ⟨[], (agree_nil _), ?_⟩
      refine WL.load_box rfl rfl rfl (h20030.ext hE1) Ty.agg30 ?_
      exact dq hbi rfl
     ·intro σ β w1 hE1 hbi hk
      refine ⟨[(41, .agg (tcells A (.slice a7 A.subs.length cap7)).toArray)], (ak hk 0 (agree_nil _)), ?_⟩
      refine WL.call rfl rfl rfl Ty.ent14 (Nullable_ok _ _ _ A (h20031.ext hE1)) ?_
      rintro _ w20054 ⟨he, hE20053⟩
      have hq : (Nd.clean A && Nd.nullable A) = false := hc20029
      rw [hq] at he
      subst he
      clear hq
      refine ⟨_, rfl, ?_⟩
      exact dqE hbi hE20053 rfl
     ·intro σ β w1 hE1 hbi hk
      refine ⟨[(42, .bool false)], (ak hk 1 (agree_nil _)), ?_⟩
      refine mv ?_
      exact dq hbi rfl
     ·intro σ β w1 hE1 hbi hk
      refine ⟨[(43, .bool false)], (ak hk 2 (agree_nil _)), ?_⟩
      refine ps ?_
      exact dq hbi rfl
     ·intro σ β w1 hE1 hbi hk
      refine ⟨[(43, .bool false)], (ak hk 2 (agree_nil _)), ?_⟩
      refine ps ?_
      exact dq hbi rfl
     ·intro σ β w1 hE1 hbi hk
      refine ⟨[(43, .bool false), (44, undef), (45, undef)], (ak hk 2 (ak hk 3 (ak hk 4 (agree_nil _)))), ?_⟩
      refine ps ?_
      exact dq hbi rfl
     ·intro σ β w1 hE1 hbi hk
      refine ⟨[(43, .bool false), (46, undef)], (ak hk 2 (ak hk 5 (agree_nil _))), ?_⟩
      refine ps ?_
      exact dq hbi rfl
     ·intro σ β w1 hE1 hbi hk
      refine ⟨[(43, .bool false), (47, undef)], (ak hk 2 (ak hk 6 (agree_nil _))), ?_⟩
      refine ps ?_
      exact dq hbi rfl
     ·intro σ β w1 hE1 hbi hk
      refine ⟨[(48, undef)], (ak hk 7 (agree_nil _)), ?_⟩
      refine ps ?_
      exact dq hbi rfl
     ·intro σ β w1 hE1 hbi hk
      refine ⟨[(48, undef)], (ak hk 7 (agree_nil _)), ?_⟩
      refine ps ?_
      exact dq hbi rfl
     ·intro σ β w1 hE1 hbi hk
      refine ⟨[(48, undef), (49, undef), (50, undef)], (ak hk 7 (ak hk 8 (ak hk 9 (agree_nil _)))), ?_⟩
      refine ps ?_
      exact dq hbi rfl
     ·intro σ β w1 hE1 hbi hk
      refine ⟨[(48, undef), (51, undef)], (ak hk 7 (ak hk 10 (agree_nil _))), ?_⟩
      refine ps ?_
      exact dq hbi rfl
     ·intro σ β w1 hE1 hbi hk
      refine ⟨[(43, .bool false), (48, undef), (52, undef)], (ak hk 2 (ak hk 7 (ak hk 11 (agree_nil _)))), ?_⟩
      refine ps ?_
      exact dq hbi rfl
     ·intro σ β w1 hE1 hbi hk
      refine ⟨[(43, .bool false), (53, undef)], (ak hk 2 (ak hk 12 (agree_nil _))), ?_⟩
      refine pF ?_
      exact dq hbi rfl
     ·intro σ β w1 hE1 hbi hk
      refine ⟨[(54, .bool false)], (ak hk 13 (agree_nil _)), ?_⟩
      refine mv ?_
      exact dq hbi rfl
     ·intro σ β w1 hE1 hbi hk
      refine ⟨[(55, .bool false)], (ak hk 14 (agree_nil _)), ?_⟩
      refine WL.load_box rfl rfl rfl (hR24.ext hE1) Ty.agg30 ?_
      exact dq hbi rfl
     ·intro σ β w1 hE1 hbi hk
      refine ⟨[(55, .bool false), (56, .agg (tcells (Nd.timesN A Nd.opt) (.slice a24 (Nd.timesN A Nd.opt).subs.length cap24)).toArray)], (ak hk 14 (ak hk 15 (agree_nil _))), ?_⟩
      refine WL.call rfl rfl rfl Ty.ent14 (Nullable_ok _ _ _ (Nd.timesN A Nd.opt) (hn24.ext hE1)) ?_
      rintro _ w20055 ⟨he, hE20054⟩
      have hq : (Nd.clean (Nd.timesN A Nd.opt) && Nd.nullable (Nd.timesN A Nd.opt)) = true := hC.nullO
      rw [hq] at he
      subst he
      clear hq
      refine ⟨_, rfl, ?_⟩
      exact dqE hbi hE20054 rfl
     ·intro σ β w1 hE1 hbi hk
      refine ⟨[(55, .bool false), (57, .bool true)], (ak hk 14 (ak hk 16 (agree_nil _))), ?_⟩
      refine WL.not rfl rfl rfl ?_
      exact dq hbi rfl
     ·intro σ β w1 hE1 hbi hk
      refine ⟨[(55, .bool false), (58, .bool false)], (ak hk 14 (ak hk 17 (agree_nil _))), ?_⟩
      refine pF ?_
      exact dq hbi rfl
     ·intro σ β w1 hE1 hbi hk
      refine ⟨[(59, .bool false)], (ak hk 18 (agree_nil _)), ?_⟩
      refine mv ?_
      exact dq hbi rfl
     ·intro σ β w1 hE1 hbi hk
      refine ⟨[(60, .bool false)], (ak hk 19 (agree_nil _)), ?_⟩
      refine WL.load_box rfl rfl rfl (hR25.ext hE1) Ty.agg30 ?_
      exact dq hbi rfl
     ·intro σ β w1 hE1 hbi hk
      refine ⟨[(60, .bool false), (61, .agg (tcells (Nd.timesN A Nd.star) (.slice a25 (Nd.timesN A Nd.star).subs.length cap25)).toArray)], (ak hk 19 (ak hk 20 (agree_nil _))), ?_⟩
      refine WL.call rfl rfl rfl Ty.ent14 (Nullable_ok _ _ _ (Nd.timesN A Nd.star) (hn25.ext hE1)) ?_
      rintro _ w20055 ⟨he, hE20054⟩
      have hq : (Nd.clean (Nd.timesN A Nd.star) && Nd.nullable (Nd.timesN A Nd.star)) = true := hC.nullS
      rw [hq] at he
      subst he
      clear hq
      refine ⟨_, rfl, ?_⟩
      exact dqE hbi hE20054 rfl
     ·intro σ β w1 hE1 hbi hk
      refine ⟨[(60, .bool false), (62, .bool true)], (ak hk 19 (ak hk 21 (agree_nil _))), ?_⟩
      refine WL.not rfl rfl rfl ?_
      exact dq hbi rfl
     ·intro σ β w1 hE1 hbi hk
      refine ⟨[(60, .bool false), (63, .bool false)], (ak hk 19 (ak hk 22 (agree_nil _))), ?_⟩
      refine pF ?_
      exact dq hbi rfl
     ·intro σ β w1 hE1 hbi hk
      refine ⟨[(64, .bool false)], (ak hk 23 (agree_nil _)), ?_⟩
      refine mv ?_
      exact dq hbi rfl
     ·intro σ β w1 hE1 hbi hk
      refine ⟨[(65, .bool false)], (ak hk 24 (agree_nil _)), ?_⟩
      refine WL.load_box rfl rfl rfl (hR26.ext hE1) Ty.agg30 ?_
      exact dq hbi rfl
     ·intro σ β w1 hE1 hbi hk
      refine ⟨[(65, .bool false), (66, .agg (tcells (Nd.timesN A Nd.plus) (.slice a26 (Nd.timesN A Nd.plus).subs.length cap26)).toArray)], (ak hk 24 (ak hk 25 (agree_nil _))), ?_⟩
      refine WL.call rfl rfl rfl Ty.ent14 (Nullable_ok _ _ _ (Nd.timesN A Nd.plus) (hn26.ext hE1)) ?_
      rintro _ w20055 ⟨rfl, hE20054⟩
      refine ⟨_, rfl, ?_⟩
      exact dqE hbi hE20054 rfl
     ·intro σ β w1 hE1 hbi hk
      refine ⟨[(65, .bool false)], (ak hk 24 (agree_nil _)), ?_⟩
      refine WL.load_box rfl rfl rfl (h20030.ext hE1) Ty.agg30 ?_
      exact dq hbi rfl
     ·intro σ β w1 hE1 hbi hk
      refine ⟨[(65, .bool false), (68, .agg (tcells A (.slice a7 A.subs.length cap7)).toArray)], (ak hk 24 (ak hk 27 (agree_nil _))), ?_⟩
      refine WL.call rfl rfl rfl Ty.ent14 (Nullable_ok _ _ _ A (h20031.ext hE1)) ?_
      rintro _ w20055 ⟨he, hE20054⟩
      have hq : (Nd.clean A && Nd.nullable A) = false := hc20029
      rw [hq] at he
      subst he
      clear hq
      refine ⟨_, rfl, ?_⟩
      exact dqE hbi hE20054 rfl
     ·intro σ β w1 hE1 hbi hk
      refine ⟨[(65, .bool false), (67, .bool (Nd.clean (Nd.timesN A Nd.plus) && Nd.nullable (Nd.timesN A Nd.plus))), (69, .bool false)], (ak hk 24 (ak hk 26 (ak hk 28 (agree_nil _)))), ?_⟩
      refine WL.neqB (b := false) rfl rfl Try.underlying4 rfl rfl (by rw [hC.nullP]; simp [hc20029]) ?_
      exact dq hbi rfl
     ·intro σ β w1 hE1 hbi hk
      refine ⟨[(65, .bool false), (70, .bool false)], (ak hk 24 (ak hk 29 (agree_nil _))), ?_⟩
      refine pF ?_
      exact dq hbi rfl
     intro σ β w20032 hE20032 hbi20032 hk
     have hz20032 := hE20032.size
     have hbi := hbi20032
     refine WL.know [(71, .bool false)] (aj hk 30 (agree_nil _)) ?_
     refine WL.nil (fun a_ ha => ?_)
     exact ⟨ha.weaken (s4 (s4 (sr rfl (sr rfl (subReg_nil _))))), hE20032⟩
    | true =>
     have h20030 := ((hR16.ext hE20).ext hE27)
     have h20031 := ((h19.ext hE20).ext hE27)
     refine WC.weaken (r' := [(2, .bool false), (12, .bool false), (3, pt b10 0), (20, .bool false), (28, .bool false), (5, .func (.func 16) #[] #[]), (6, pt b24 0), (7, pt b25 0), (8, pt b26 0)]) (s4 (s4 (sr rfl (subReg_nil _)))) ?_
     refine WC.draw 31 [41, 42, 43, 44, 45, 46, 47, 48, 49, 50, 51, 52, 53, 54, 55, 56, 57, 58, 59, 60, 61, 62, 63, 64, 65, 66, 67, 68, 69, 70, 71] [pc (.agg (tcells A (.slice a7 A.subs.length cap7)).toArray), pc (.bool true), pc (.bool true), pc (.agg (tcells (Nd.timesN A Nd.opt) (.slice a24 (Nd.timesN A Nd.opt).subs.length cap24)).toArray), pc (.agg (tcells A (.slice a7 A.subs.length cap7)).toArray), pc (.bool true), pc (.bool false), pc (.bool false), pc (.agg (tcells (Nd.timesN A Nd.plus) (.slice a26 (Nd.timesN A Nd.plus).subs.length cap26)).toArray), pc (.agg (tcells (Nd.timesN A Nd.star) (.slice a25 (Nd.timesN A Nd.star).subs.length cap25)).toArray), pc (.bool true), pc (.bool false), pc (.bool false), pc (.bool false), pc (.bool false), pc (.agg (tcells (Nd.timesN A Nd.opt) (.slice a24 (Nd.timesN A Nd.opt).subs.length cap24)).toArray), pc (.bool true), pc (.bool false), pc (.bool false), pc (.bool false), pc (.agg (tcells (Nd.timesN A Nd.star) (.slice a25 (Nd.timesN A Nd.star).subs.length cap25)).toArray), pc (.bool true), pc (.bool false), pc (.bool false), pc (.bool false), pc (.agg (tcells (Nd.timesN A Nd.plus) (.slice a26 (Nd.timesN A Nd.plus).subs.length cap26)).toArray), pc (.bool (Nd.clean (Nd.timesN A Nd.plus) && Nd.nullable (Nd.timesN A Nd.plus))), pc (.agg (tcells A (.slice a7 A.subs.length cap7)).toArray), pc (.bool true), pc (.bool false), pc (.bool false)] (by kernel_rfl) (by kernel_rfl) (k4 (k4 (k4 (k4 (k4 (k4 (k4 ⟨KW_pc _, KW_pc _, KW_pc _, trivial⟩))))))) rfl rfl rfl (sc4 ?_ ?_ ?_ ?_ (sc4 ?_ ?_ ?_ ?_ (sc4 ?_ ?_ ?_ ?_ (sc4 ?_ ?_ ?_ ?_ (sc4 ?_ ?_ ?_ ?_ (sc4 ?_ ?_ ?_ ?_ (sc4 ?_ ?_ ?_ ?_ (sc ?_ (sc ?_ (sc ?_ (StepsOn.nil _))))))))))) ?_
     ·intro σ β w1 hE1 hbi hk
      refine ⟨[], (agree_nil _), ?_⟩
      refine WL.load_box rfl rfl rfl (h20030.ext hE1) Ty.agg30 ?_
      exact dq hbi rfl
     ·intro σ β w1 hE1 hbi hk
      refine ⟨[(41, .agg (tcells A (.slice a7 A.subs.length cap7)).toArray)], (ak hk 0 (agree_nil _)), ?_⟩
      refine WL.call rfl rfl rfl Ty.ent14 (Nullable_ok _ _ _ A (h20031.ext hE1)) ?_
      rintro _ w20054 ⟨he, hE20053⟩
      have hq : (Nd.clean A && Nd.nullable A) = true := hc20029
      rw [hq] at he
      subst he
      clear hq
      refine ⟨_, rfl, ?_⟩
      exact dqE hbi hE20053 rfl
     ·intro σ β w1 hE1 hbi hk
      refine ⟨[(42, .bool true)], (ak hk 1 (agree_nil _)), ?_⟩
      refine mv ?_
      exact dq hbi rfl
     ·intro σ β w1 hE1 hbi hk
      refine ⟨[(43, .bool true)], (ak hk 2 (agree_nil _)), ?_⟩
      refine WL.load_box rfl rfl rfl (hR24.ext hE1) Ty.agg30 ?_
      exact dq hbi rfl
     ·intro σ β w1 hE1 hbi hk
      refine ⟨[(43, .bool true)], (ak hk 2 (agree_nil _)), ?_⟩
      refine WL.load_box rfl rfl rfl (h20030.ext hE1) Ty.agg30 ?_
      exact dq hbi rfl
     ·intro σ β w1 hE1 hbi hk
      have hz1 := hE1.size
      refine ⟨[(43, .bool true), (44, .agg (tcells (Nd.timesN A Nd.opt) (.slice a24 (Nd.timesN A Nd.opt).subs.length cap24)).toArray), (45, .agg (tcells A (.slice a7 A.subs.length cap7)).toArray)], (ak hk 2 (ak hk 3 (ak hk 4 (agree_nil _)))), ?_⟩
      refine WL.call rfl rfl rfl Ty.ent11 (Same_ok _ _ _ _ _ (Nd.timesN A Nd.opt) A (hn24.ext hE1) (h20031.ext hE1)) ?_
      rintro _ w20056 ⟨he, hE20055⟩
      have hq : (Nd.light (Nd.timesN A Nd.opt) && Nd.light A && Nd.same (Nd.timesN A Nd.opt) A) = true := (Nd.Same_eq (hC.null (by omega) (Nd.and_snd hc20029)).1 (hC.fine (by omega)).light)
      rw [hq] at he
      subst he
      clear hq
      refine ⟨_, rfl, ?_⟩
      exact dqE hbi hE20055 rfl
     ·intro σ β w1 hE1 hbi hk
      refine ⟨[(43, .bool true), (46, .bool true)], (ak hk 2 (ak hk 5 (agree_nil _))), ?_⟩
      refine WL.not rfl rfl rfl ?_
      exact dq hbi rfl
     ·intro σ β w1 hE1 hbi hk
      refine ⟨[(43, .bool true), (47, .bool false)], (ak hk 2 (ak hk 6 (agree_nil _))), ?_⟩
      refine mv ?_
      exact dq hbi rfl
     ·intro σ β w1 hE1 hbi hk
      refine ⟨[(48, .bool false)], (ak hk 7 (agree_nil _)), ?_⟩
      refine WL.load_box rfl rfl rfl (hR26.ext hE1) Ty.agg30 ?_
      exact dq hbi rfl
     ·intro σ β w1 hE1 hbi hk
      refine ⟨[(48, .bool false)], (ak hk 7 (agree_nil _)), ?_⟩
      refine WL.load_box rfl rfl rfl (hR25.ext hE1) Ty.agg30 ?_
      exact dq hbi rfl
     ·intro σ β w1 hE1 hbi hk
      have hz1 := hE1.size
      refine ⟨[(48, .bool false), (49, .agg (tcells (Nd.timesN A Nd.plus) (.slice a26 (Nd.timesN A Nd.plus).subs.length cap26)).toArray), (50, .agg (tcells (Nd.timesN A Nd.star) (.slice a25 (Nd.timesN A Nd.star).subs.length cap25)).toArray)], (ak hk 7 (ak hk 8 (ak hk 9 (agree_nil _)))), ?_⟩
      refine WL.call rfl rfl rfl Ty.ent11 (Same_ok _ _ _ _ _ (Nd.timesN A Nd.plus) (Nd.timesN A Nd.star) (hn26.ext hE1) (hn25.ext hE1)) ?_
      rintro _ w20056 ⟨he, hE20055⟩
      have hq : (Nd.light (Nd.timesN A Nd.plus) && Nd.light (Nd.timesN A Nd.star) && Nd.same (Nd.timesN A Nd.plus) (Nd.timesN A Nd.star)) = true := (Nd.Same_eq (hC.null (by omega) (Nd.and_snd hc20029)).2 (hS.fine (by omega)).light)
      rw [hq] at he
      subst he
      clear hq
      refine ⟨_, rfl, ?_⟩
      exact dqE hbi hE20055 rfl
     ·intro σ β w1 hE1 hbi hk
      refine ⟨[(48, .bool false), (51, .bool true)], (ak hk 7 (ak hk 10 (agree_nil _))), ?_⟩
      refine WL.not rfl rfl rfl ?_
      exact dq hbi rfl
     ·intro σ β w1 hE1 hbi hk
      refine ⟨[(43, .bool true), (48, .bool false), (52, .bool false)], (ak hk 2 (ak hk 7 (ak hk 11 (agree_nil _)))), ?_⟩
      refine pF ?_
      exact dq hbi rfl
     ·intro σ β w1 hE1 hbi hk
      refine ⟨[(43, .bool true), (53, .bool false)], (ak hk 2 (ak hk 12 (agree_nil _))), ?_⟩
      refine pT ?_
      exact dq hbi rfl
     ·intro σ β w1 hE1 hbi hk
      refine ⟨[(54, .bool false)], (ak hk 13 (agree_nil _)), ?_⟩
      refine mv ?_
      exact dq hbi rfl
     ·intro σ β w1 hE1 hbi hk
      refine ⟨[(55, .bool false)], (ak hk 14 (agree_nil _)), ?_⟩
      refine WL.load_box rfl rfl rfl (hR24.ext hE1) Ty.agg30 ?_
      exact dq hbi rfl
     ·intro σ β w1 hE1 hbi hk
      refine ⟨[(55, .bool false), (56, .agg (tcells (Nd.timesN A Nd.opt) (.slice a24 (Nd.timesN A Nd.opt).subs.length cap24)).toArray)], (ak hk 14 (ak hk 15 (agree_nil _))), ?_⟩
      refine WL.call rfl rfl rfl Ty.ent14 (Nullable_ok _ _ _ (Nd.timesN A Nd.opt) (hn24.ext hE1)) ?_
      rintro _ w20055 ⟨he, hE20054⟩
      have hq : (Nd.clean (Nd.timesN A Nd.opt) && Nd.nullable (Nd.timesN A Nd.opt)) = true := hC.nullO
      rw [hq] at he
      subst he
      clear hq
      refine ⟨_, rfl, ?_⟩
      exact dqE hbi hE20054 rfl
     ·intro σ β w1 hE1 hbi hk
      refine ⟨[(55, .bool false), (57, .bool true)], (ak hk 14 (ak hk 16 (agree_nil _))), ?_⟩
      refine WL.not rfl rfl rfl ?_
      exact dq hbi rfl
     ·intro σ β w1 hE1 hbi hk
      refine ⟨[(55, .bool false), (58, .bool false)], (ak hk 14 (ak hk 17 (agree_nil _))), ?_⟩
      refine pF ?_
      exact dq hbi rfl
     ·intro σ β w1 hE1 hbi hk
      refine ⟨[(59, .bool false)], (ak hk 18 (agree_nil _)), ?_⟩
      refine mv ?_
      exact dq hbi rfl
     ·intro σ β w1 hE1 hbi hk
      refine ⟨[(60, .bool false)], (ak hk 19 (agree_nil _)), ?_⟩
      refine WL.load_box rfl rfl rfl (hR25.ext hE1) Ty.agg30 ?_
      exact dq hbi rfl
     ·intro σ β w1 hE1 hbi hk
      refine ⟨[(60, .bool false), (61, .agg (tcells (Nd.timesN A Nd.star) (.slice a25 (Nd.timesN A Nd.star).subs.length cap25)).toArray)], (ak hk 19 (ak hk 20 (agree_nil _))), ?_⟩
      refine WL.call rfl rfl rfl Ty.ent14 (Nullable_ok _ _ _ (Nd.timesN A Nd.star) (hn25.ext hE1)) ?_
      rintro _ w20055 ⟨he, hE20054⟩
      have hq : (Nd.clean (Nd.timesN A Nd.star) && Nd.nullable (Nd.timesN A Nd.star)) = true := hC.nullS
      rw [hq] at he
      subst he
      clear hq
      refine ⟨_, rfl, ?_⟩
      exact dqE hbi hE20054 rfl
     ·intro σ β w1 hE1 hbi hk
      refine ⟨[(60, .bool false), (62, .bool true)], (ak hk 19 (ak hk 21 (agree_nil _))), ?_⟩
      refine WL.not rfl rfl rfl ?_
      exact dq hbi rfl
     ·intro σ β w1 hE1 hbi hk
      refine ⟨[(60, .bool false), (63, .bool false)], (ak hk 19 (ak hk 22 (agree_nil _))), ?_⟩
      refine pF ?_
      exact dq hbi rfl
     ·intro σ β w1 hE1 hbi hk
      refine ⟨[(64, .bool false)], (ak hk 23 (agree_nil _)), ?_⟩
      refine mv ?_
      exact dq hbi rfl
     ·intro σ β w1 hE1 hbi hk
      refine ⟨[(65, .bool false)], (ak hk 24 (agree_nil _)), ?_⟩
      refine WL.load_box rfl rfl rfl (hR26.ext hE1) Ty.agg30 ?_
      exact dq hbi rfl
     ·intro σ β w1 hE1 hbi hk
      refine ⟨[(65, .bool false), (66, .agg (tcells (Nd.timesN A Nd.plus) (.slice a26 (Nd.timesN A Nd.plus).subs.length cap26)).toArray)], (ak hk 24 (ak hk 25 (agree_nil _))), ?_⟩
      refine WL.call rfl rfl rfl Ty.ent14 (Nullable_ok _ _ _ (Nd.timesN A Nd.plus) (hn26.ext hE1)) ?_
      rintro _ w20055 ⟨rfl, hE20054⟩
      refine ⟨_, rfl, ?_⟩
      exact dqE hbi hE20054 rfl
     ·intro σ β w1 hE1 hbi hk
      refine ⟨[(65, .bool false)], (ak hk 24 (agree_nil _)), ?_⟩
      refine WL.load_box rfl rfl rfl (h20030.ext hE1) Ty.agg30 ?_
      exact dq hbi rfl
     ·intro σ β w1 hE1 hbi hk
      refine ⟨[(65, .bool false), (68, .agg (tcells A (.slice a7 A.subs.length cap7)).toArray)], (ak hk 24 (ak hk 27 (agree_nil _))), ?_⟩
      refine WL.call rfl rfl rfl Ty.ent14 (Nullable_ok _ _ _ A (h20031.ext hE1)) ?_
      rintro _ w20055 ⟨he, hE20054⟩
      have hq : (Nd.clean A && Nd.nullable A) = true := hc20029
      rw [hq] at he
      subst he
      clear hq
      refine ⟨_, rfl, ?_⟩
      exact dqE hbi hE20054 rfl
     ·intro σ β w1 hE1 hbi hk
      refine ⟨[(65, .bool false), (67, .bool (Nd.clean (Nd.timesN A Nd.plus) && Nd.nullable (Nd.timesN A Nd.plus))), (69, .bool true)], (ak hk 24 (ak hk 26 (ak hk 28 (agree_nil _)))), ?_⟩
      refine WL.neqB (b := false) rfl rfl Try.underlying4 rfl rfl (by rw [hC.nullP]; simp [hc20029]) ?_
      exact dq hbi rfl
     ·intro σ β w1 hE1 hbi hk
      refine ⟨[(65, .bool false), (70, .bool false)], (ak hk 24 (ak hk 29 (agree_nil _))), ?_⟩
      refine pF ?_
      exact dq hbi rfl
     intro σ β w20032 hE20032 hbi20032 hk
     have hz20032 := hE20032.size
     have hbi := hbi20032
     refine WL.know [(71, .bool false)] (aj hk 30 (agree_nil _)) ?_
     refine WL.nil (fun a_ ha => ?_)
     exact ⟨ha.weaken (s4 (s4 (sr rfl (sr rfl (subReg_nil _))))), hE20032⟩
   intro w30 hE29
   have hzhE29 := hE29.size
   refine cF ?_
   refine WC.sk ?_
   refine WC.seqk ?_
   refine sq ?_
   refine WL.load_box rfl rfl rfl (hR24.ext hE29) Ty.agg30 ?_
   refine WL.load_box rfl rfl rfl (hR25.ext hE29) Ty.agg30 ?_
   refine WL.load_box rfl rfl rfl (hR26.ext hE29) Ty.agg30 ?_
   refine WL.buildSlice (vs := [.agg (tcells (Nd.timesN A Nd.opt) (.slice a24 (Nd.timesN A Nd.opt).subs.length cap24)).toArray, .agg (tcells (Nd.timesN A Nd.star) (.slice a25 (Nd.timesN A Nd.star).subs.length cap25)).toArray, .agg (tcells (Nd.timesN A Nd.plus) (.slice a26 (Nd.timesN A Nd.plus).subs.length cap26)).toArray]) (cells := (tcells (Nd.timesN A Nd.opt) (.slice a24 (Nd.timesN A Nd.opt).subs.length cap24) ++ tcells (Nd.timesN A Nd.star) (.slice a25 (Nd.timesN A Nd.star).subs.length cap25) ++ tcells (Nd.timesN A Nd.plus) (.slice a26 (Nd.timesN A Nd.plus).subs.length cap26))) rfl rfl Ty.slice24 Ty.zero30 rfl rfl rfl rfl rfl rfl (fun b31 w36 hb32 hE35 hs33 hR34 => ?_)
   have hts31 := (NodesV.lit (n := 3) (ts := [(Nd.timesN A Nd.opt), (Nd.timesN A Nd.star), (Nd.timesN A Nd.plus)]) hR34 (RowsL.cons ((hn24.ext hE29).ext hE35) (RowsL.cons ((hn25.ext hE29).ext hE35) (RowsL.cons ((hn26.ext hE29).ext hE35) (RowsL.nil' _)))) rfl rfl (by decide)).lt
   refine WL.len rfl rfl Try.underlying24 rfl ?_
   refine mv ?_
   refine WL.dn ?_
   refine WC.block ?_
   refine WC.weaken (r' := [(3, pt b10 0), (5, .func (.func 16) #[] #[]), (6, pt b24 0), (7, pt b25 0), (8, pt b26 0), (75, .slice (some ⟨b31, 0, none⟩) 3 3), (76, .int .i64 3), (77, .int .i64 0)]) (s4 (s4 (subReg_nil _))) ?_
   refine WC.loop (σ := Nat) (fun k r_ w_ => r_ = [(3, pt b10 0), (5, .func (.func 16) #[] #[]), (6, pt b24 0), (7, pt b25 0), (8, pt b26 0), (75, .slice (some ⟨b31, 0, none⟩) 3 3), (76, .int .i64 3), (77, .int .i64 (k : Int))] ∧ Ext w36 w_ ∧ k ≤ 3) (fun k => 3 - k) 0 ⟨rfl, (Ext.refl _), (Nat.zero_le _)⟩ ?_
   rintro k r_ w39 ⟨rfl, hE37, hI38⟩
   have hzhE37 := hE37.size
   have hk := hI38
   refine sq ?_
   cases hc40 : decide (((k : Int) : Int) < 3) with
   | false =>
    refine WL.lss rfl rfl rfl rfl hc40 ?_
    have hp40 := of_decide_eq_false hc40
    refine WL.dn ?_
    refine WC.seqk ?_
    refine cF ?_
    refine WC.exit (fun a_ ha => ?_)
    refine exit_then ?_
    refine exit_then ?_
    refine exit_here ?_
    refine WC.at ?_ ha
    refine WC.seqk ?_
    refine WC.seqk ?_
    have h41 := (((((hR16.ext hE20).ext hE27).ext hE29).ext hE35).ext hE37)
    have h42 := (((((h19.ext hE20).ext hE27).ext hE29).ext hE35).ext hE37)
    have h43 := (((hR24.ext hE29).ext hE35).ext hE37)
    have h44 := (((hn24.ext hE29).ext hE35).ext hE37)
    have h45 := (((hR25.ext hE29).ext hE35).ext hE37)
    have h46 := (((hn25.ext hE29).ext hE35).ext hE37)
    have h47 := (((hR26.ext hE29).ext hE35).ext hE37)
    have h48 := (((hn26.ext hE29).ext hE35).ext hE37)
    refine WC.weaken (r' := [(3, pt b10 0), (5, .func (.func 16) #[] #[]), (6, pt b24 0), (7, pt b25 0), (8, pt b26 0), (75, .slice (some ⟨b31, 0, none⟩) 3 3), (76, .int .i64 3), (77, .int .i64 (k : Int)), (78, .bool false)]) (s4 (s4 (sr rfl (subReg_nil _)))) ?_
    refine WC.draw 43 [94, 95, 96, 97, 98, 99, 100, 101, 102, 103, 104, 105, 106, 107, 108, 109, 110, 111, 112, 113, 114, 115, 116, 117, 118, 119, 120, 121, 122, 123, 124, 125, 126, 127, 128, 129, 130, 131, 132, 133, 134, 135, 136] [pc (.func (.func 16) #[] #[]), pc (.agg (tcells (Nd.timesN A Nd.star) (.slice a25 (Nd.timesN A Nd.star).subs.length cap25)).toArray), pnode (fun k => w39.heap.size ≤ k) (Nd.R Nd.plus (Nd.timesN A Nd.star)), pnode (fun k => w39.heap.size ≤ k) (Nd.timesN (Nd.timesN A Nd.star) Nd.plus), pc (.agg (tcells (Nd.timesN A Nd.star) (.slice a25 (Nd.timesN A Nd.star).subs.length cap25)).toArray), pc (.bool true), pc (.bool false), pc (.bool false), pc (.func (.func 16) #[] #[]), pc (.agg (tcells (Nd.timesN A Nd.plus) (.slice a26 (Nd.timesN A Nd.plus).subs.length cap26)).toArray), pnode (fun k => w39.heap.size ≤ k) (Nd.R Nd.plus (Nd.timesN A Nd.plus)), pnode (fun k => w39.heap.size ≤ k) (Nd.timesN (Nd.timesN A Nd.plus) Nd.plus), pc (.agg (tcells (Nd.timesN A Nd.plus) (.slice a26 (Nd.timesN A Nd.plus).subs.length cap26)).toArray), pc (.bool true), pc (.bool false), pc (.bool false), pc (.bool false), pc (.func (.func 16) #[] #[]), pc (.agg (tcells (Nd.timesN A Nd.star) (.slice a25 (Nd.timesN A Nd.star).subs.length cap25)).toArray), pnode (fun k => w39.heap.size ≤ k) (Nd.R Nd.opt (Nd.timesN A Nd.star)), pnode (fun k => w39.heap.size ≤ k) (Nd.timesN (Nd.timesN A Nd.star) Nd.opt), pc (.agg (tcells (Nd.timesN A Nd.star) (.slice a25 (Nd.timesN A Nd.star).subs.length cap25)).toArray), pc (.bool true), pc (.bool false), pc (.bool false), pc (.bool false), pc (.func (.func 16) #[] #[]), pc (.agg (tcells (Nd.timesN A Nd.opt) (.slice a24 (Nd.timesN A Nd.opt).subs.length cap24)).toArray), pnode (fun k => w39.heap.size ≤ k) (Nd.R Nd.opt (Nd.timesN A Nd.opt)), pnode (fun k => w39.heap.size ≤ k) (Nd.timesN (Nd.timesN A Nd.opt) Nd.opt), pc (.agg (tcells (Nd.timesN A Nd.opt) (.slice a24 (Nd.timesN A Nd.opt).subs.length cap24)).toArray), pc (.bool true), pc (.bool false), pc (.bool false), pc (.bool false), pc (.func (.func 16) #[] #[]), pc (.agg (tcells (Nd.timesN A Nd.plus) (.slice a26 (Nd.timesN A Nd.plus).subs.length cap26)).toArray), pnode (fun k => w39.heap.size ≤ k) (Nd.R Nd.opt (Nd.timesN A Nd.plus)), pnode (fun k => w39.heap.size ≤ k) (Nd.timesN (Nd.timesN A Nd.plus) Nd.opt), pc (.agg (tcells (Nd.timesN A Nd.star) (.slice a25 (Nd.timesN A Nd.star).subs.length cap25)).toArray), pc (.bool true), pc (.bool false), pc (.bool false)] (by kernel_rfl) (by kernel_rfl) ⟨KW_pc _, KW_pc _, KW_pnode _ _, KW_pnode _ _, k4 ⟨KW_pc _, KW_pc _, KW_pnode _ _, KW_pnode _ _, k4 ⟨KW_pc _, KW_pc _, KW_pc _, KW_pnode _ _, KW_pnode _ _, k4 ⟨KW_pc _, KW_pc _, KW_pc _, KW_pnode _ _, KW_pnode _ _, k4 ⟨KW_pc _, KW_pc _, KW_pc _, KW_pnode _ _, KW_pnode _ _, k4 trivial⟩⟩⟩⟩⟩ rfl rfl rfl (sc4 ?_ ?_ ?_ ?_ (sc4 ?_ ?_ ?_ ?_ (sc4 ?_ ?_ ?_ ?_ (sc4 ?_ ?_ ?_ ?_ (sc4 ?_ ?_ ?_ ?_ (sc4 ?_ ?_ ?_ ?_ (sc4 ?_ ?_ ?_ ?_ (sc4 ?_ ?_ ?_ ?_ (sc4 ?_ ?_ ?_ ?_ (sc4 ?_ ?_ ?_ ?_ (sc ?_ (sc ?_ (sc ?_ (StepsOn.nil _)))))))))))))) ?_
    ·intro σ β w1 hE1 hbi hk
     refine ⟨[], (agree_nil _), ?_⟩
     refine mv ?_
     exact dq hbi rfl
    ·intro σ β w1 hE1 hbi hk
     refine ⟨[], (agree_nil _), ?_⟩
     refine WL.load_box rfl rfl rfl (h45.ext hE1) Ty.agg30 ?_
     exact dq hbi rfl
    ·intro σ β w1 hE1 hbi hk
     have hz1 := hE1.size
     refine ⟨[(95, .agg (tcells (Nd.timesN A Nd.star) (.slice a25 (Nd.timesN A Nd.star).subs.length cap25)).toArray)], (ak hk 1 (agree_nil _)), ?_⟩
     refine WL.call rfl rfl rfl Ty.ent17 (times_ok _ _ _ (Nd.timesN A Nd.star) 1 (-1) (h46.ext hE1)) ?_
     rintro _ w72 ⟨l70, rfl, hr70, hE71⟩
     have hzhE71 := hE71.size
     refine ⟨_, rfl, ?_⟩
     rw [hS.plus (by omega)] at hr70
     have hn70 := hr70.lt
     obtain ⟨a70, cap70, rfl, hts70, hlen70⟩ := hn70.op2
     exact dqE hbi hE71 ⟨_, rfl, (hr70.off0 hbi (fun k hk => Nat.le_trans hE1.size hk))⟩
    ·intro σ β w1 hE1 hbi hk
     have hz1 := hE1.size
     obtain ⟨_, hv70, l70, rfl, hn70⟩ := kn hk 2 rfl rfl
     have hn70 := hn70.lt
     obtain ⟨a70, cap70, rfl, hts70, hlen70⟩ := hn70.op2
     refine ⟨[(94, .func (.func 16) #[] #[]), (96, .agg (tcells (Nd.R Nd.plus (Nd.timesN A Nd.star)) (.slice a70 (Nd.R Nd.plus (Nd.timesN A Nd.star)).subs.length cap70)).toArray)], (ak hk 0 (ag hv70 (agree_nil _))), ?_⟩
     refine WL.callv rfl rfl rfl rfl Ty.ent16 (Calls.caps0 (counts1_ok _ _ _ (Nd.R Nd.plus (Nd.timesN A Nd.star)) hn70 (hS.R (by omega) (b := Nd.plus) rfl).1.clean (hS.R (by omega) (b := Nd.plus) rfl).1 (hS.R (by omega) (b := Nd.plus) rfl).2)) ?_
     rintro _ w73 ⟨l71, rfl, hr71, hE72⟩
     refine ⟨_, rfl, ?_⟩
     rw [hS.norm Nd.plus] at hr71
     have hn71 := hr71.lt
     obtain ⟨a71, cap71, rfl, hts71, hlen71⟩ := hn71.op2
     exact dqE hbi hE72 ⟨_, rfl, (hr71.off0 hbi (fun k hk => Nat.le_trans hE1.size hk))⟩
    ·intro σ β w1 hE1 hbi hk
     refine ⟨[], (agree_nil _), ?_⟩
     refine WL.load_box rfl rfl rfl (h45.ext hE1) Ty.agg30 ?_
     exact dq hbi rfl
    ·intro σ β w1 hE1 hbi hk
     have hz1 := hE1.size
     obtain ⟨_, hv69, l69, rfl, hn69⟩ := kn hk 3 rfl rfl
     have hn69 := hn69.lt
     obtain ⟨a69, cap69, rfl, hts69, hlen69⟩ := hn69.op2
     refine ⟨[(97, .agg (tcells (Nd.timesN (Nd.timesN A Nd.star) Nd.plus) (.slice a69 (Nd.timesN (Nd.timesN A Nd.star) Nd.plus).subs.length cap69)).toArray), (98, .agg (tcells (Nd.timesN A Nd.star) (.slice a25 (Nd.timesN A Nd.star).subs.length cap25)).toArray)], (ag hv69 (ak hk 4 (agree_nil _))), ?_⟩
     refine WL.call rfl rfl rfl Ty.ent11 (Same_ok _ _ _ _ _ (Nd.timesN (Nd.timesN A Nd.star) Nd.plus) (Nd.timesN A Nd.star) hn69 (h46.ext hE1)) ?_
     rintro _ w72 ⟨he, hE71⟩
     have hq : (Nd.light (Nd.timesN (Nd.timesN A Nd.star) Nd.plus) && Nd.light (Nd.timesN A Nd.star) && Nd.same (Nd.timesN (Nd.timesN A Nd.star) Nd.plus) (Nd.timesN A Nd.star)) = true := (Nd.Same_eq hE.sp (hS.fine (by omega)).light)
     rw [hq] at he
     subst he
     clear hq
     refine ⟨_, rfl, ?_⟩
     exact dqE hbi hE71 rfl
    ·intro σ β w1 hE1 hbi hk
     refine ⟨[(99, .bool true)], (ak hk 5 (agree_nil _)), ?_⟩
     refine WL.not rfl rfl rfl ?_
     exact dq hbi rfl
    ·intro σ β w1 hE1 hbi hk
     refine ⟨[(100, .bool false)], (ak hk 6 (agree_nil _)), ?_⟩
     refine mv ?_
     exact dq hbi rfl
    ·intro σ β w1 hE1 hbi hk
     refine ⟨[(101, .bool false)], (ak hk 7 (agree_nil _)), ?_⟩
     refine mv ?_
     exact dq hbi rfl
    ·intro σ β w1 hE1 hbi hk
     refine ⟨[(101, .bool false)], (ak hk 7 (agree_nil _)), ?_⟩
     refine WL.load_box rfl rfl rfl (h47.ext hE1) Ty.agg30 ?_
     exact dq hbi rfl
    ·intro σ β w1 hE1 hbi hk
     have hz1 := hE1.size
     refine ⟨[(101, .bool false), (103, .agg (tcells (Nd.timesN A Nd.plus) (.slice a26 (Nd.timesN A Nd.plus).subs.length cap26)).toArray)], (ak hk 7 (ak hk 9 (agree_nil _))), ?_⟩
     refine WL.call rfl rfl rfl Ty.ent17 (times_ok _ _ _ (Nd.timesN A Nd.plus) 1 (-1) (h48.ext hE1)) ?_
     rintro _ w73 ⟨l71, rfl, hr71, hE72⟩
     have hzhE72 := hE72.size
     refine ⟨_, rfl, ?_⟩
     rw [hP.plus (by omega)] at hr71
     have hn71 := hr71.lt
     obtain ⟨a71, cap71, rfl, hts71, hlen71⟩ := hn71.op2
     exact dqE hbi hE72 ⟨_, rfl, (hr71.off0 hbi (fun k hk => Nat.le_trans hE1.size hk))⟩
    ·intro σ β w1 hE1 hbi hk
     have hz1 := hE1.size
     obtain ⟨_, hv71, l71, rfl, hn71⟩ := kn hk 10 rfl rfl
     have hn71 := hn71.lt
     obtain ⟨a71, cap71, rfl, hts71, hlen71⟩ := hn71.op2
     refine ⟨[(101, .bool false), (102, .func (.func 16) #[] #[]), (104, .agg (tcells (Nd.R Nd.plus (Nd.timesN A Nd.plus)) (.slice a71 (Nd.R Nd.plus (Nd.timesN A Nd.plus)).subs.length cap71)).toArray)], (ak hk 7 (ak hk 8 (ag hv71 (agree_nil _)))), ?_⟩
     refine WL.callv rfl rfl rfl rfl Ty.ent16 (Calls.caps0 (counts1_ok _ _ _ (Nd.R Nd.plus (Nd.timesN A Nd.plus)) hn71 (hP.R (by omega) (b := Nd.plus) rfl).1.clean (hP.R (by omega) (b := Nd.plus) rfl).1 (hP.R (by omega) (b := Nd.plus) rfl).2)) ?_
     rintro _ w74 ⟨l72, rfl, hr72, hE73⟩
     refine ⟨_, rfl, ?_⟩
     rw [hP.norm Nd.plus] at hr72
     have hn72 := hr72.lt
     obtain ⟨a72, cap72, rfl, hts72, hlen72⟩ := hn72.op2
     exact dqE hbi hE73 ⟨_, rfl, (hr72.off0 hbi (fun k hk => Nat.le_trans hE1.size hk))⟩
    ·intro σ β w1 hE1 hbi hk
     refine ⟨[(101, .bool false)], (ak hk 7 (agree_nil _)), ?_⟩
     refine WL.load_box rfl rfl rfl (h47.ext hE1) Ty.agg30 ?_
     exact dq hbi rfl
    ·intro σ β w1 hE1 hbi hk
     have hz1 := hE1.size
     obtain ⟨_, hv70, l70, rfl, hn70⟩ := kn hk 11 rfl rfl
     have hn70 := hn70.lt
     obtain ⟨a70, cap70, rfl, hts70, hlen70⟩ := hn70.op2
     refine ⟨[(101, .bool false), (105, .agg (tcells (Nd.timesN (Nd.timesN A Nd.plus) Nd.plus) (.slice a70 (Nd.timesN (Nd.timesN A Nd.plus) Nd.plus).subs.length cap70)).toArray), (106, .agg (tcells (Nd.timesN A Nd.plus) (.slice a26 (Nd.timesN A Nd.plus).subs.length cap26)).toArray)], (ak hk 7 (ag hv70 (ak hk 12 (agree_nil _)))), ?_⟩
     refine WL.call rfl rfl rfl Ty.ent11 (Same_ok _ _ _ _ _ (Nd.timesN (Nd.timesN A Nd.plus) Nd.plus) (Nd.timesN A Nd.plus) hn70 (h48.ext hE1)) ?_
     rintro _ w73 ⟨he, hE72⟩
     have hq : (Nd.light (Nd.timesN (Nd.timesN A Nd.plus) Nd.plus) && Nd.light (Nd.timesN A Nd.plus) && Nd.same (Nd.timesN (Nd.timesN A Nd.plus) Nd.plus) (Nd.timesN A Nd.plus)) = true := (Nd.Same_eq hE.pp (hP.fine (by omega)).light)
     rw [hq] at he
     subst he
     clear hq
     refine ⟨_, rfl, ?_⟩
     exact dqE hbi hE72 rfl
    ·intro σ β w1 hE1 hbi hk
     refine ⟨[(101, .bool false), (107, .bool true)], (ak hk 7 (ak hk 13 (agree_nil _))), ?_⟩
     refine WL.not rfl rfl rfl ?_
     exact dq hbi rfl
    ·intro σ β w1 hE1 hbi hk
     refine ⟨[(101, .bool false), (108, .bool false)], (ak hk 7 (ak hk 14 (agree_nil _))), ?_⟩
     refine pF ?_
     exact dq hbi rfl
    ·intro σ β w1 hE1 hbi hk
     refine ⟨[(109, .bool false)], (ak hk 15 (agree_nil _)), ?_⟩
     refine mv ?_
     exact dq hbi rfl
    ·intro σ β w1 hE1 hbi hk
     refine ⟨[(110, .bool false)], (ak hk 16 (agree_nil _)), ?_⟩
     refine mv ?_
     exact dq hbi rfl
    ·intro σ β w1 hE1 hbi hk
     refine ⟨[(110, .bool false)], (ak hk 16 (agree_nil _)), ?_⟩
     refine WL.load_box rfl rfl rfl (h45.ext hE1) Ty.agg30 ?_
     exact dq hbi rfl
    ·intro σ β w1 hE1 hbi hk
     have hz1 := hE1.size
     refine ⟨[(110, .bool false), (112, .agg (tcells (Nd.timesN A Nd.star) (.slice a25 (Nd.timesN A Nd.star).subs.length cap25)).toArray)], (ak hk 16 (ak hk 18 (agree_nil _))), ?_⟩
     refine WL.call rfl rfl rfl Ty.ent17 (times_ok _ _ _ (Nd.timesN A Nd.star) 0 1 (h46.ext hE1)) ?_
     rintro _ w73 ⟨l71, rfl, hr71, hE72⟩
     have hzhE72 := hE72.size
     refine ⟨_, rfl, ?_⟩
     rw [hS.opt (by omega)] at hr71
     have hn71 := hr71.lt
     obtain ⟨a71, cap71, rfl, hts71, hlen71⟩ := hn71.op2
     exact dqE hbi hE72 ⟨_, rfl, (hr71.off0 hbi (fun k hk => Nat.le_trans hE1.size hk))⟩
    ·intro σ β w1 hE1 hbi hk
     have hz1 := hE1.size
     obtain ⟨_, hv71, l71, rfl, hn71⟩ := kn hk 19 rfl rfl
     have hn71 := hn71.lt
     obtain ⟨a71, cap71, rfl, hts71, hlen71⟩ := hn71.op2
     refine ⟨[(110, .bool false), (111, .func (.func 16) #[] #[]), (113, .agg (tcells (Nd.R Nd.opt (Nd.timesN A Nd.star)) (.slice a71 (Nd.R Nd.opt (Nd.timesN A Nd.star)).subs.length cap71)).toArray)], (ak hk 16 (ak hk 17 (ag hv71 (agree_nil _)))), ?_⟩
     refine WL.callv rfl rfl rfl rfl Ty.ent16 (Calls.caps0 (counts1_ok _ _ _ (Nd.R Nd.opt (Nd.timesN A Nd.star)) hn71 (hS.R (by omega) (b := Nd.opt) rfl).1.clean (hS.R (by omega) (b := Nd.opt) rfl).1 (hS.R (by omega) (b := Nd.opt) rfl).2)) ?_
     rintro _ w74 ⟨l72, rfl, hr72, hE73⟩
     refine ⟨_, rfl, ?_⟩
     rw [hS.norm Nd.opt] at hr72
     have hn72 := hr72.lt
     obtain ⟨a72, cap72, rfl, hts72, hlen72⟩ := hn72.op2
     exact dqE hbi hE73 ⟨_, rfl, (hr72.off0 hbi (fun k hk => Nat.le_trans hE1.size hk))⟩
    ·intro σ β w1 hE1 hbi hk
     refine ⟨[(110, .bool false)], (ak hk 16 (agree_nil _)), ?_⟩
     refine WL.load_box rfl rfl rfl (h45.ext hE1) Ty.agg30 ?_
     exact dq hbi rfl
    ·intro σ β w1 hE1 hbi hk
     have hz1 := hE1.size
     obtain ⟨_, hv70, l70, rfl, hn70⟩ := kn hk 20 rfl rfl
     have hn70 := hn70.lt
     obtain ⟨a70, cap70, rfl, hts70, hlen70⟩ := hn70.op2
     refine ⟨[(110, .bool false), (114, .agg (tcells (Nd.timesN (Nd.timesN A Nd.star) Nd.opt) (.slice a70 (Nd.timesN (Nd.timesN A Nd.star) Nd.opt).subs.length cap70)).toArray), (115, .agg (tcells (Nd.timesN A Nd.star) (.slice a25 (Nd.timesN A Nd.star).subs.length cap25)).toArray)], (ak hk 16 (ag hv70 (ak hk 21 (agree_nil _)))), ?_⟩
     refine WL.call rfl rfl rfl Ty.ent11 (Same_ok _ _ _ _ _ (Nd.timesN (Nd.timesN A Nd.star) Nd.opt) (Nd.timesN A Nd.star) hn70 (h46.ext hE1)) ?_
     rintro _ w73 ⟨he, hE72⟩
     have hq : (Nd.light (Nd.timesN (Nd.timesN A Nd.star) Nd.opt) && Nd.light (Nd.timesN A Nd.star) && Nd.same (Nd.timesN (Nd.timesN A Nd.star) Nd.opt) (Nd.timesN A Nd.star)) = true := (Nd.Same_eq hE.so (hS.fine (by omega)).light)
     rw [hq] at he
     subst he
     clear hq
     refine ⟨_, rfl, ?_⟩
     exact dqE hbi hE72 rfl
    ·intro σ β w1 hE1 hbi hk
     refine ⟨[(110, .bool false), (116, .bool true)], (ak hk 16 (ak hk 22 (agree_nil _))), ?_⟩
     refine WL.not rfl rfl rfl ?_
     exact dq hbi rfl
    ·intro σ β w1 hE1 hbi hk
     refine ⟨[(110, .bool false), (117, .bool false)], (ak hk 16 (ak hk 23 (agree_nil _))), ?_⟩
     refine pF ?_
     exact dq hbi rfl
    ·intro σ β w1 hE1 hbi hk
     refine ⟨[(118, .bool false)], (ak hk 24 (agree_nil _)), ?_⟩
     refine mv ?_
     exact dq hbi rfl
    ·intro σ β w1 hE1 hbi hk
     refine ⟨[(119, .bool false)], (ak hk 25 (agree_nil _)), ?_⟩
     refine mv ?_
     exact dq hbi rfl
    ·intro σ β w1 hE1 hbi hk
     refine ⟨[(119, .bool false)], (ak hk 25 (agree_nil _)), ?_⟩
     refine WL.load_box rfl rfl rfl (h43.ext hE1) Ty.agg30 ?_
     exact dq hbi rfl
    ·intro σ β w1 hE1 hbi hk
     have hz1 := hE1.size
     refine ⟨[(119, .bool false), (121, .agg (tcells (Nd.timesN A Nd.opt) (.slice a24 (Nd.timesN A Nd.opt).subs.length cap24)).toArray)], (ak hk 25 (ak hk 27 (agree_nil _))), ?_⟩
     refine WL.call rfl rfl rfl Ty.ent17 (times_ok _ _ _ (Nd.timesN A Nd.opt) 0 1 (h44.ext hE1)) ?_
     rintro _ w73 ⟨l71, rfl, hr71, hE72⟩
     have hzhE72 := hE72.size
     refine ⟨_, rfl, ?_⟩
     rw [hO.opt (by omega)] at hr71
     have hn71 := hr71.lt
     obtain ⟨a71, cap71, rfl, hts71, hlen71⟩ := hn71.op2
     exact dqE hbi hE72 ⟨_, rfl, (hr71.off0 hbi (fun k hk => Nat.le_trans hE1.size hk))⟩
    ·intro σ β w1 hE1 hbi hk
     have hz1 := hE1.size
     obtain ⟨_, hv71, l71, rfl, hn71⟩ := kn hk 28 rfl rfl
     have hn71 := hn71.lt
     obtain ⟨a71, cap71, rfl, hts71, hlen71⟩ := hn71.op2
     refine ⟨[(119, .bool false), (120, .func (.func 16) #[] #[]), (122, .agg (tcells (Nd.R Nd.opt (Nd.timesN A Nd.opt)) (.slice a71 (Nd.R Nd.opt (Nd.timesN A Nd.opt)).subs.length cap71)).toArray)], (ak hk 25 (ak hk 26 (ag hv71 (agree_nil _)))), ?_⟩
     refine WL.callv rfl rfl rfl rfl Ty.ent16 (Calls.caps0 (counts1_ok _ _ _ (Nd.R Nd.opt (Nd.timesN A Nd.opt)) hn71 (hO.R (by omega) (b := Nd.opt) rfl).1.clean (hO.R (by omega) (b := Nd.opt) rfl).1 (hO.R (by omega) (b := Nd.opt) rfl).2)) ?_
     rintro _ w74 ⟨l72, rfl, hr72, hE73⟩
     refine ⟨_, rfl, ?_⟩
     rw [hO.norm Nd.opt] at hr72
     have hn72 := hr72.lt
     obtain ⟨a72, cap72, rfl, hts72, hlen72⟩ := hn72.op2
     exact dqE hbi hE73 ⟨_, rfl, (hr72.off0 hbi (fun k hk => Nat.le_trans hE1.size hk))⟩
    ·intro σ β w1 hE1 hbi hk
     refine ⟨[(119, .bool false)], (ak hk 25 (agree_nil _)), ?_⟩
     refine WL.load_box rfl rfl rfl (h43.ext hE1) Ty.agg30 ?_
     exact dq hbi rfl
    ·intro σ β w1 hE1 hbi hk
     have hz1 := hE1.size
     obtain ⟨_, hv70, l70, rfl, hn70⟩ := kn hk 29 rfl rfl
     have hn70 := hn70.lt
     obtain ⟨a70, cap70, rfl, hts70, hlen70⟩ := hn70.op2
     refine ⟨[(119, .bool false), (123, .agg (tcells (Nd.timesN (Nd.timesN A Nd.opt) Nd.opt) (.slice a70 (Nd.timesN (Nd.timesN A Nd.opt) Nd.opt).subs.length cap70)).toArray), (124, .agg (tcells (Nd.timesN A Nd.opt) (.slice a24 (Nd.timesN A Nd.opt).subs.length cap24)).toArray)], (ak hk 25 (ag hv70 (ak hk 30 (agree_nil _)))), ?_⟩
     refine WL.call rfl rfl rfl Ty.ent11 (Same_ok _ _ _ _ _ (Nd.timesN (Nd.timesN A Nd.opt) Nd.opt) (Nd.timesN A Nd.opt) hn70 (h44.ext hE1)) ?_
     rintro _ w73 ⟨he, hE72⟩
     have hq : (Nd.light (Nd.timesN (Nd.timesN A Nd.opt) Nd.opt) && Nd.light (Nd.timesN A Nd.opt) && Nd.same (Nd.timesN (Nd.timesN A Nd.opt) Nd.opt) (Nd.timesN A Nd.opt)) = true := (Nd.Same_eq hE.oo (hO.fine (by omega)).light)
     rw [hq] at he
     subst he
     clear hq
     refine ⟨_, rfl, ?_⟩
     exact dqE hbi hE72 rfl
    ·intro σ β w1 hE1 hbi hk
     refine ⟨[(119, .bool false), (125, .bool true)], (ak hk 25 (ak hk 31 (agree_nil _))), ?_⟩
     refine WL.not rfl rfl rfl ?_
     exact dq hbi rfl
    ·intro σ β w1 hE1 hbi hk
     refine ⟨[(119, .bool false), (126, .bool false)], (ak hk 25 (ak hk 32 (agree_nil _))), ?_⟩
     refine pF ?_
     exact dq hbi rfl
    ·intro σ β w1 hE1 hbi hk
     refine ⟨[(127, .bool false)], (ak hk 33 (agree_nil _)), ?_⟩
     refine mv ?_
     exact dq hbi rfl
    ·intro σ β w1 hE1 hbi hk
     refine ⟨[(128, .bool false)], (ak hk 34 (agree_nil _)), ?_⟩
     refine mv ?_
     exact dq hbi rfl
    ·intro σ β w1 hE1 hbi hk
     refine ⟨[(128, .bool false)], (ak hk 34 (agree_nil _)), ?_⟩
     refine WL.load_box rfl rfl rfl (h47.ext hE1) Ty.agg30 ?_
     exact dq hbi rfl
    ·intro σ β w1 hE1 hbi hk
     have hz1 := hE1.size
     refine ⟨[(128, .bool false), (130, .agg (tcells (Nd.timesN A Nd.plus) (.slice a26 (Nd.timesN A Nd.plus).subs.length cap26)).toArray)], (ak hk 34 (ak hk 36 (agree_nil _))), ?_⟩
     refine WL.call rfl rfl rfl Ty.ent17 (times_ok _ _ _ (Nd.timesN A Nd.plus) 0 1 (h48.ext hE1)) ?_
     rintro _ w73 ⟨l71, rfl, hr71, hE72⟩
     have hzhE72 := hE72.size
     refine ⟨_, rfl, ?_⟩
     rw [hP.opt (by omega)] at hr71
     have hn71 := hr71.lt
     obtain ⟨a71, cap71, rfl, hts71, hlen71⟩ := hn71.op2
     exact dqE hbi hE72 ⟨_, rfl, (hr71.off0 hbi (fun k hk => Nat.le_trans hE1.size hk))⟩
    ·intro σ β w1 hE1 hbi hk
     have hz1 := hE1.size
     obtain ⟨_, hv71, l71, rfl, hn71⟩ := kn hk 37 rfl rfl
     have hn71 := hn71.lt
     obtain ⟨a71, cap71, rfl, hts71, hlen71⟩ := hn71.op2
     refine ⟨[(128, .bool false), (129, .func (.func 16) #[] #[]), (131, .agg (tcells (Nd.R Nd.opt (Nd.timesN A Nd.plus)) (.slice a71 (Nd.R Nd.opt (Nd.timesN A Nd.plus)).subs.length cap71)).toArray)], (ak hk 34 (ak hk 35 (ag hv71 (agree_nil _)))), ?_⟩
     refine WL.callv rfl rfl rfl rfl Ty.ent16 (Calls.caps0 (counts1_ok _ _ _ (Nd.R Nd.opt (Nd.timesN A Nd.plus)) hn71 (hP.R (by omega) (b := Nd.opt) rfl).1.clean (hP.R (by omega) (b := Nd.opt) rfl).1 (hP.R (by omega) (b := Nd.opt) rfl).2)) ?_
     rintro _ w74 ⟨l72, rfl, hr72, hE73⟩
     refine ⟨_, rfl, ?_⟩
     rw [hP.norm Nd.opt] at hr72
     have hn72 := hr72.lt
     obtain ⟨a72, cap72, rfl, hts72, hlen72⟩ := hn72.op2
     exact dqE hbi hE73 ⟨_, rfl, (hr72.off0 hbi (fun k hk => Nat.le_trans hE1.size hk))⟩
    ·intro σ β w1 hE1 hbi hk
     refine ⟨[(128, .bool false)], (ak hk 34 (agree_nil _)), ?_⟩
     refine WL.load_box rfl rfl rfl (h45.ext hE1) Ty.agg30 ?_
     exact dq hbi rfl
    ·intro σ β w1 hE1 hbi hk
     have hz1 := hE1.size
     obtain ⟨_, hv70, l70, rfl, hn70⟩ := kn hk 38 rfl rfl
     have hn70 := hn70.lt
     obtain ⟨a70, cap70, rfl, hts70, hlen70⟩ := hn70.op2
     refine ⟨[(128, .bool false), (132, .agg (tcells (Nd.timesN (Nd.timesN A Nd.plus) Nd.opt) (.slice a70 (Nd.timesN (Nd.timesN A Nd.plus) Nd.opt).subs.length cap70)).toArray), (133, .agg (tcells (Nd.timesN A Nd.star) (.slice a25 (Nd.timesN A Nd.star).subs.length cap25)).toArray)], (ak hk 34 (ag hv70 (ak hk 39 (agree_nil _)))), ?_⟩
     refine WL.call rfl rfl rfl Ty.ent11 (Same_ok _ _ _ _ _ (Nd.timesN (Nd.timesN A Nd.plus) Nd.opt) (Nd.timesN A Nd.star) hn70 (h46.ext hE1)) ?_
     rintro _ w73 ⟨he, hE72⟩
     have hq : (Nd.light (Nd.timesN (Nd.timesN A Nd.plus) Nd.opt) && Nd.light (Nd.timesN A Nd.star) && Nd.same (Nd.timesN (Nd.timesN A Nd.plus) Nd.opt) (Nd.timesN A Nd.star)) = true := (Nd.Same_eq hE.po (hS.fine (by omega)).light)
     rw [hq] at he
     subst he
     clear hq
     refine ⟨_, rfl, ?_⟩
     exact dqE hbi hE72 rfl
    ·intro σ β w1 hE1 hbi hk
     refine ⟨[(128, .bool false), (134, .bool true)], (ak hk 34 (ak hk 40 (agree_nil _))), ?_⟩
     refine WL.not rfl rfl rfl ?_
     exact dq hbi rfl
    ·intro σ β w1 hE1 hbi hk
     refine ⟨[(128, .bool false), (135, .bool false)], (ak hk 34 (ak hk 41 (agree_nil _))), ?_⟩
     refine pF ?_
     exact dq hbi rfl
    intro σ β w49 hE49 hbi49 hk
    have hz49 := hE49.size
    have hbi := hbi49
    refine WL.know [(136, .bool false)] (aj hk 42 (agree_nil _)) ?_
    refine WL.dn ?_
    refine cF ?_
    refine WC.sk ?_
    refine WC.seqk ?_
    cases hc51 : ((A.kind : Int) == 3) with
    | false =>
     have hp51 := beq_eq_false_iff_ne.1 hc51
     cases hc52 : ((A.kind : Int) == 5) with
     | false =>
      have hp52 := beq_eq_false_iff_ne.1 hc52
      have h53 := ((hts31.ext hE37).ext hE49)
      refine WC.weaken (r' := [(3, pt b10 0), (5, .func (.func 16) #[] #[]), (6, pt b24 0), (7, pt b25 0), (8, pt b26 0), (75, .slice (some ⟨b31, 0, none⟩) 3 3), (76, .int .i64 3), (77, .int .i64 (k : Int)), (78, .bool false), (136, .bool false)]) (s4 (s4 (sr rfl (sr rfl (subReg_nil _))))) ?_
      refine WC.draw 38 [137, 138, 139, 140, 141, 142, 143, 144, 145, 146, 147, 148, 149, 150, 151, 152, 153, 154, 155, 156, 157, 158, 159, 160, 161, 162, 163, 164, 165, 166, 167, 168, 169, 170, 171, 172, 173, 174] [pc (pt b10 0), pc (.int .u8 A.kind), pc (.bool false), pc (.bool false), pc (pt b10 0), pc (.int .u8 A.kind), pc (.bool false), pc (.bool false), pc (.bool false), pc (.func (.func 16) #[] #[]), pc (.agg (tcells A (.slice a7 A.subs.length cap7)).toArray), pc (.agg (tcells (Nd.timesN A Nd.star) (.slice a25 (Nd.timesN A Nd.star).subs.length cap25)).toArray), pnodes (fun _ => True) ([A, (Nd.timesN A Nd.star)]), pnode (fun k => w49.heap.size ≤ k) (Nd.seq ([A, (Nd.timesN A Nd.star)])), pnode (fun k => w49.heap.size ≤ k) (Nd.timesN A Nd.plus), pc (.agg (tcells (Nd.timesN A Nd.plus) (.slice a26 (Nd.timesN A Nd.plus).subs.length cap26)).toArray), pc (.bool true), pc (.bool true), pc (.func (.func 16) #[] #[]), pc (.agg (tcells (Nd.timesN A Nd.star) (.slice a25 (Nd.timesN A Nd.star).subs.length cap25)).toArray), pc (.agg (tcells A (.slice a7 A.subs.length cap7)).toArray), pnodes (fun _ => True) ([(Nd.timesN A Nd.star), A]), pnode (fun k => w49.heap.size ≤ k) (Nd.seq ([(Nd.timesN A Nd.star), A])), pnode (fun k => w49.heap.size ≤ k) (Nd.timesN A Nd.plus), pc (.agg (tcells (Nd.timesN A Nd.plus) (.slice a26 (Nd.timesN A Nd.plus).subs.length cap26)).toArray), pc (.bool true), pc (.bool true), pc (.bool true), pc (.func (.func 16) #[] #[]), pc (.agg (tcells (Nd.timesN A Nd.star) (.slice a25 (Nd.timesN A Nd.star).subs.length cap25)).toArray), pc (.agg (tcells (Nd.timesN A Nd.star) (.slice a25 (Nd.timesN A Nd.star).subs.length cap25)).toArray), pnodes (fun _ => True) ([(Nd.timesN A Nd.star), (Nd.timesN A Nd.star)]), pnode (fun k => w49.heap.size ≤ k) (Nd.seq ([(Nd.timesN A Nd.star), (Nd.timesN A Nd.star)])), pnode (fun k => w49.heap.size ≤ k) (Nd.timesN A Nd.star), pc (.agg (tcells (Nd.timesN A Nd.star) (.slice a25 (Nd.timesN A Nd.star).subs.length cap25)).toArray), pc (.bool true), pc (.bool true), pc (.bool true)] (by kernel_rfl) (by kernel_rfl) (k4 (k4 (k4 ⟨KW_pnodes _ _, KW_pnode _ _, KW_pnode _ _, k4 ⟨KW_pc _, KW_pc _, KW_pnodes _ _, KW_pnode _ _, KW_pnode _ _, k4 ⟨KW_pc _, KW_pc _, KW_pc _, KW_pnodes _ _, KW_pnode _ _, KW_pnode _ _, k4 trivial⟩⟩⟩))) rfl rfl rfl (sc4 ?_ ?_ ?_ ?_ (sc4 ?_ ?_ ?_ ?_ (sc4 ?_ ?_ ?_ ?_ (sc4 ?_ ?_ ?_ ?_ (sc4 ?_ ?_ ?_ ?_ (sc4 ?_ ?_ ?_ ?_ (sc4 ?_ ?_ ?_ ?_ (sc4 ?_ ?_ ?_ ?_ (sc4 ?_ ?_ ?_ ?_ (sc ?_ (sc ?_ (StepsOn.nil _)))))))))))) ?_
      ·intro σ β w1 hE1 hbi hk
       refine ⟨[], (agree_nil _), ?_⟩
       refine WL.fieldAddr rfl rfl Ty.fld30_0 rfl ?_
       exact dq hbi rfl
      ·intro σ β w1 hE1 hbi hk
       refine ⟨[(137, pt b10 0)], (ak hk 0 (agree_nil _)), ?_⟩
       have h75 := ((h41.ext hE49).ext hE1)
       refine WL.load_fld rfl rfl Ty.flat5 rfl h75 rfl ?_
       exact dq hbi rfl
      ·intro σ β w1 hE1 hbi hk
       refine ⟨[(138, .int .u8 A.kind)], (ak hk 1 (agree_nil _)), ?_⟩
       refine WL.eql (b := false) rfl rfl rfl rfl hc51 ?_
       exact dq hbi rfl
      ·intro σ β w1 hE1 hbi hk
       refine ⟨[(139, .bool false)], (ak hk 2 (agree_nil _)), ?_⟩
       refine mv ?_
       exact dq hbi rfl
      ·intro σ β w1 hE1 hbi hk
       refine ⟨[(140, .bool false)], (ak hk 3 (agree_nil _)), ?_⟩
       refine WL.fieldAddr rfl rfl Ty.fld30_0 rfl ?_
       exact dq hbi rfl
      ·intro σ β w1 hE1 hbi hk
       refine ⟨[(140, .bool false), (141, pt b10 0)], (ak hk 3 (ak hk 4 (agree_nil _))), ?_⟩
       have h76 := ((h41.ext hE49).ext hE1)
       refine WL.load_fld rfl rfl Ty.flat5 rfl h76 rfl ?_
       exact dq hbi rfl
      ·intro σ β w1 hE1 hbi hk
       refine ⟨[(140, .bool false), (142, .int .u8 A.kind)], (ak hk 3 (ak hk 5 (agree_nil _))), ?_⟩
       refine WL.eql (b := false) rfl rfl rfl rfl hc52 ?_
       exact dq hbi rfl
      ·intro σ β w1 hE1 hbi hk
       refine ⟨[(140, .bool false), (143, .bool false)], (ak hk 3 (ak hk 6 (agree_nil _))), ?_⟩
       refine pF ?_
       exact dq hbi rfl
      ·intro σ β w1 hE1 hbi hk
       refine ⟨[(144, .bool false)], (ak hk 7 (agree_nil _)), ?_⟩
       refine mv ?_
       exact dq hbi rfl
      ·intro σ β w1 hE1 hbi hk
       refine ⟨[(145, .bool false)], (ak hk 8 (agree_nil _)), ?_⟩
       refine mv ?_
       exact dq hbi rfl
      ·intro σ β w1 hE1 hbi hk
       refine ⟨[(145, .bool false)], (ak hk 8 (agree_nil _)), ?_⟩
       have h75 := ((h41.ext hE49).ext hE1)
       refine WL.load_box rfl rfl rfl h75 Ty.agg30 ?_
       exact dq hbi rfl
      ·intro σ β w1 hE1 hbi hk
       refine ⟨[(145, .bool false)], (ak hk 8 (agree_nil _)), ?_⟩
       have h75 := ((h45.ext hE49).ext hE1)
       refine WL.load_box rfl rfl rfl h75 Ty.agg30 ?_
       exact dq hbi rfl
      ·intro σ β w1 hE1 hbi hk
       have hz1 := hE1.size
       refine ⟨[(145, .bool false), (147, .agg (tcells A (.slice a7 A.subs.length cap7)).toArray), (148, .agg (tcells (Nd.timesN A Nd.star) (.slice a25 (Nd.timesN A Nd.star).subs.length cap25)).toArray)], (ak hk 8 (ak hk 10 (ak hk 11 (agree_nil _)))), ?_⟩
       have h77 := ((h42.ext hE49).ext hE1)
       have h78 := ((h46.ext hE49).ext hE1)
       refine WL.buildSlice (vs := [.agg (tcells A (.slice a7 A.subs.length cap7)).toArray, .agg (tcells (Nd.timesN A Nd.star) (.slice a25 (Nd.timesN A Nd.star).subs.length cap25)).toArray]) (cells := (tcells A (.slice a7 A.subs.length cap7) ++ tcells (Nd.timesN A Nd.star) (.slice a25 (Nd.timesN A Nd.star).subs.length cap25))) rfl rfl Ty.slice24 Ty.zero30 rfl rfl rfl rfl rfl rfl (fun b79 w84 hb80 hE83 hs81 hR82 => ?_)
       have hts79 := (NodesV.lit (n := 2) (ts := [A, (Nd.timesN A Nd.star)]) hR82 (RowsL.cons (h77.ext hE83) (RowsL.cons (h78.ext hE83) (RowsL.nil' _))) rfl rfl (by decide)).lt
       exact dqE hbi hE83 ⟨_, _, rfl, (hts79.dom (by intro k h1; refine ⟨trivial, ?_, h1.2⟩; replace h1 := h1.1; intro x hxm; have hi := hbi.hi x hxm; have lo := hbi.lo x hxm; (try dsimp only at h1); (repeat' first | (guard_hyp h1 : _ ∨ _; refine Or.elim h1 (fun h1 => ?_) (fun h1 => ?_)) | (guard_hyp h1 : _ ∧ _; have hx := h1.2; replace h1 := h1.1)) <;> first | contradiction | omega | exact hx.1 x hxm))⟩
      ·intro σ β w1 hE1 hbi hk
       obtain ⟨_, hv75, a75, cap75, rfl, hts75⟩ := kn hk 12 rfl rfl
       have hts75 := hts75.lt
       have hlen75 := hts75.len
       refine ⟨[(145, .bool false), (149, .slice a75 (([A, (Nd.timesN A Nd.star)]).length) cap75)], (ak hk 8 (ag hv75 (agree_nil _))), ?_⟩
       refine WL.call rfl rfl rfl Ty.ent15 (seq_ok _ _ _ _ ([A, (Nd.timesN A Nd.star)]) hts75 (Nat.le_of_ble_eq_true rfl)) ?_
       rintro _ w78 ⟨l76, rfl, hr76, hE77⟩
       refine ⟨_, rfl, ?_⟩
       have hn76 := hr76.lt
       obtain ⟨a76, cap76, rfl, hts76, hlen76⟩ := hn76.op2
       exact dqE hbi hE77 ⟨_, rfl, (hr76.off0 hbi (fun k hk => Nat.le_trans hE1.size hk))⟩
      ·intro σ β w1 hE1 hbi hk
       have hz1 := hE1.size
       obtain ⟨_, hv76, l76, rfl, hn76⟩ := kn hk 13 rfl rfl
       have hn76 := hn76.lt
       obtain ⟨a76, cap76, rfl, hts76, hlen76⟩ := hn76.op2
       refine ⟨[(145, .bool false), (146, .func (.func 16) #[] #[]), (150, .agg (tcells (Nd.seq ([A, (Nd.timesN A Nd.star)])) (.slice a76 (Nd.seq ([A, (Nd.timesN A Nd.star)])).subs.length cap76)).toArray)], (ak hk 8 (ak hk 9 (ag hv76 (agree_nil _)))), ?_⟩
       refine WL.callv rfl rfl rfl rfl Ty.ent16 (Calls.caps0 (counts1_ok _ _ _ (Nd.seq ([A, (Nd.timesN A Nd.star)])) hn76 (hC.sides (by omega) (by omega)).f1.1.clean (hC.sides (by omega) (by omega)).f1.1 (hC.sides (by omega) (by omega)).f1.2)) ?_
       rintro _ w79 ⟨l77, rfl, hr77, hE78⟩
       have hzhE78 := hE78.size
       refine ⟨_, rfl, ?_⟩
       rw [(hC.sides (by omega) (by omega)).l] at hr77
       have hn77 := hr77.lt
       obtain ⟨a77, cap77, rfl, hts77, hlen77⟩ := hn77.op2
       exact dqE hbi hE78 ⟨_, rfl, (hr77.off0 hbi (fun k hk => Nat.le_trans hE1.size hk))⟩
      ·intro σ β w1 hE1 hbi hk
       refine ⟨[(145, .bool false)], (ak hk 8 (agree_nil _)), ?_⟩
       have h75 := ((h47.ext hE49).ext hE1)
       refine WL.load_box rfl rfl rfl h75 Ty.agg30 ?_
       exact dq hbi rfl
      ·intro σ β w1 hE1 hbi hk
       have hz1 := hE1.size
       obtain ⟨_, hv75, l75, rfl, hn75⟩ := kn hk 14 rfl rfl
       have hn75 := hn75.lt
       obtain ⟨a75, cap75, rfl, hts75, hlen75⟩ := hn75.op2
       refine ⟨[(145, .bool false), (151, .agg (tcells (Nd.timesN A Nd.plus) (.slice a75 (Nd.timesN A Nd.plus).subs.length cap75)).toArray), (152, .agg (tcells (Nd.timesN A Nd.plus) (.slice a26 (Nd.timesN A Nd.plus).subs.length cap26)).toArray)], (ak hk 8 (ag hv75 (ak hk 15 (agree_nil _)))), ?_⟩
       have h77 := ((h48.ext hE49).ext hE1)
       refine WL.call rfl rfl rfl Ty.ent11 (Same_ok _ _ _ _ _ (Nd.timesN A Nd.plus) (Nd.timesN A Nd.plus) hn75 h77) ?_
       rintro _ w79 ⟨he, hE78⟩
       have hq : (Nd.light (Nd.timesN A Nd.plus) && Nd.light (Nd.timesN A Nd.plus) && Nd.same (Nd.timesN A Nd.plus) (Nd.timesN A Nd.plus)) = true := (Nd.Same_self (hP.fine (by omega)).light)
       rw [hq] at he
       subst he
       clear hq
       refine ⟨_, rfl, ?_⟩
       exact dqE hbi hE78 rfl
      ·intro σ β w1 hE1 hbi hk
       refine ⟨[(145, .bool false), (153, .bool true)], (ak hk 8 (ak hk 16 (agree_nil _))), ?_⟩
       refine mv ?_
       exact dq hbi rfl
      ·intro σ β w1 hE1 hbi hk
       refine ⟨[(154, .bool true)], (ak hk 17 (agree_nil _)), ?_⟩
       refine mv ?_
       exact dq hbi rfl
      ·intro σ β w1 hE1 hbi hk
       refine ⟨[(154, .bool true)], (ak hk 17 (agree_nil _)), ?_⟩
       have h75 := ((h45.ext hE49).ext hE1)
       refine WL.load_box rfl rfl rfl h75 Ty.agg30 ?_
       exact dq hbi rfl
      ·intro σ β w1 hE1 hbi hk
       refine ⟨[(154, .bool true)], (ak hk 17 (agree_nil _)), ?_⟩
       have h75 := ((h41.ext hE49).ext hE1)
       refine WL.load_box rfl rfl rfl h75 Ty.agg30 ?_
       exact dq hbi rfl
      ·intro σ β w1 hE1 hbi hk
       have hz1 := hE1.size
       refine ⟨[(154, .bool true), (156, .agg (tcells (Nd.timesN A Nd.star) (.slice a25 (Nd.timesN A Nd.star).subs.length cap25)).toArray), (157, .agg (tcells A (.slice a7 A.subs.length cap7)).toArray)], (ak hk 17 (ak hk 19 (ak hk 20 (agree_nil _)))), ?_⟩
       have h77 := ((h46.ext hE49).ext hE1)
       have h78 := ((h42.ext hE49).ext hE1)
       refine WL.buildSlice (vs := [.agg (tcells (Nd.timesN A Nd.star) (.slice a25 (Nd.timesN A Nd.star).subs.length cap25)).toArray, .agg (tcells A (.slice a7 A.subs.length cap7)).toArray]) (cells := (tcells (Nd.timesN A Nd.star) (.slice a25 (Nd.timesN A Nd.star).subs.length cap25) ++ tcells A (.slice a7 A.subs.length cap7))) rfl rfl Ty.slice24 Ty.zero30 rfl rfl rfl rfl rfl rfl (fun b79 w84 hb80 hE83 hs81 hR82 => ?_)
       have hts79 := (NodesV.lit (n := 2) (ts := [(Nd.timesN A Nd.star), A]) hR82 (RowsL.cons (h77.ext hE83) (RowsL.cons (h78.ext hE83) (RowsL.nil' _))) rfl rfl (by decide)).lt
       exact dqE hbi hE83 ⟨_, _, rfl, (hts79.dom (by intro k h1; refine ⟨trivial, ?_, h1.2⟩; replace h1 := h1.1; intro x hxm; have hi := hbi.hi x hxm; have lo := hbi.lo x hxm; (try dsimp only at h1); (repeat' first | (guard_hyp h1 : _ ∨ _; refine Or.elim h1 (fun h1 => ?_) (fun h1 => ?_)) | (guard_hyp h1 : _ ∧ _; have hx := h1.2; replace h1 := h1.1)) <;> first | contradiction | omega | exact hx.1 x hxm))⟩
      ·intro σ β w1 hE1 hbi hk
       obtain ⟨_, hv75, a75, cap75, rfl, hts75⟩ := kn hk 21 rfl rfl
       have hts75 := hts75.lt
       have hlen75 := hts75.len
       refine ⟨[(154, .bool true), (158, .slice a75 (([(Nd.timesN A Nd.star), A]).length) cap75)], (ak hk 17 (ag hv75 (agree_nil _))), ?_⟩
       refine WL.call rfl rfl rfl Ty.ent15 (seq_ok _ _ _ _ ([(Nd.timesN A Nd.star), A]) hts75 (Nat.le_of_ble_eq_true rfl)) ?_
       rintro _ w78 ⟨l76, rfl, hr76, hE77⟩
       refine ⟨_, rfl, ?_⟩
       have hn76 := hr76.lt
       obtain ⟨a76, cap76, rfl, hts76, hlen76⟩ := hn76.op2
       exact dqE hbi hE77 ⟨_, rfl, (hr76.off0 hbi (fun k hk => Nat.le_trans hE1.size hk))⟩
      ·intro σ β w1 hE1 hbi hk
       have hz1 := hE1.size
       obtain ⟨_, hv76, l76, rfl, hn76⟩ := kn hk 22 rfl rfl
       have hn76 := hn76.lt
       obtain ⟨a76, cap76, rfl, hts76, hlen76⟩ := hn76.op2
       refine ⟨[(154, .bool true), (155, .func (.func 16) #[] #[]), (159, .agg (tcells (Nd.seq ([(Nd.timesN A Nd.star), A])) (.slice a76 (Nd.seq ([(Nd.timesN A Nd.star), A])).subs.length cap76)).toArray)], (ak hk 17 (ak hk 18 (ag hv76 (agree_nil _)))), ?_⟩
       refine WL.callv rfl rfl rfl rfl Ty.ent16 (Calls.caps0 (counts1_ok _ _ _ (Nd.seq ([(Nd.timesN A Nd.star), A])) hn76 (hC.sides (by omega) (by omega)).f2.1.clean (hC.sides (by omega) (by omega)).f2.1 (hC.sides (by omega) (by omega)).f2.2)) ?_
       rintro _ w79 ⟨l77, rfl, hr77, hE78⟩
       have hzhE78 := hE78.size
       refine ⟨_, rfl, ?_⟩
       rw [(hC.sides (by omega) (by omega)).r] at hr77
       have hn77 := hr77.lt
       obtain ⟨a77, cap77, rfl, hts77, hlen77⟩ := hn77.op2
       exact dqE hbi hE78 ⟨_, rfl, (hr77.off0 hbi (fun k hk => Nat.le_trans hE1.size hk))⟩
      ·intro σ β w1 hE1 hbi hk
       refine ⟨[(154, .bool true)], (ak hk 17 (agree_nil _)), ?_⟩
       have h75 := ((h47.ext hE49).ext hE1)
       refine WL.load_box rfl rfl rfl h75 Ty.agg30 ?_
       exact dq hbi rfl
      ·intro σ β w1 hE1 hbi hk
       have hz1 := hE1.size
       obtain ⟨_, hv75, l75, rfl, hn75⟩ := kn hk 23 rfl rfl
       have hn75 := hn75.lt
       obtain ⟨a75, cap75, rfl, hts75, hlen75⟩ := hn75.op2
       refine ⟨[(154, .bool true), (160, .agg (tcells (Nd.timesN A Nd.plus) (.slice a75 (Nd.timesN A Nd.plus).subs.length cap75)).toArray), (161, .agg (tcells (Nd.timesN A Nd.plus) (.slice a26 (Nd.timesN A Nd.plus).subs.length cap26)).toArray)], (ak hk 17 (ag hv75 (ak hk 24 (agree_nil _)))), ?_⟩
       have h77 := ((h48.ext hE49).ext hE1)
       refine WL.call rfl rfl rfl Ty.ent11 (Same_ok _ _ _ _ _ (Nd.timesN A Nd.plus) (Nd.timesN A Nd.plus) hn75 h77) ?_
       rintro _ w79 ⟨he, hE78⟩
       have hq : (Nd.light (Nd.timesN A Nd.plus) && Nd.light (Nd.timesN A Nd.plus) && Nd.same (Nd.timesN A Nd.plus) (Nd.timesN A Nd.plus)) = true := (Nd.Same_self (hP.fine (by omega)).light)
       rw [hq] at he
       subst he
       clear hq
       refine ⟨_, rfl, ?_⟩
       exact dqE hbi hE78 rfl
      ·intro σ β w1 hE1 hbi hk
       refine ⟨[(145, .bool false), (154, .bool true), (162, .bool true)], (ak hk 8 (ak hk 17 (ak hk 25 (agree_nil _)))), ?_⟩
       refine pT ?_
       exact dq hbi rfl
      ·intro σ β w1 hE1 hbi hk
       refine ⟨[(145, .bool false), (163, .bool true)], (ak hk 8 (ak hk 26 (agree_nil _))), ?_⟩
       refine mv ?_
       exact dq hbi rfl
      ·intro σ β w1 hE1 hbi hk
       refine ⟨[(164, .bool true)], (ak hk 27 (agree_nil _)), ?_⟩
       refine mv ?_
       exact dq hbi rfl
      ·intro σ β w1 hE1 hbi hk
       refine ⟨[(164, .bool true)], (ak hk 27 (agree_nil _)), ?_⟩
       have h75 := ((h45.ext hE49).ext hE1)
       refine WL.load_box rfl rfl rfl h75 Ty.agg30 ?_
       exact dq hbi rfl
      ·intro σ β w1 hE1 hbi hk
       refine ⟨[(164, .bool true)], (ak hk 27 (agree_nil _)), ?_⟩
       have h75 := ((h45.ext hE49).ext hE1)
       refine WL.load_box rfl rfl rfl h75 Ty.agg30 ?_
       exact dq hbi rfl
      ·intro σ β w1 hE1 hbi hk
       have hz1 := hE1.size
       refine ⟨[(164, .bool true), (166, .agg (tcells (Nd.timesN A Nd.star) (.slice a25 (Nd.timesN A Nd.star).subs.length cap25)).toArray), (167, .agg (tcells (Nd.timesN A Nd.star) (.slice a25 (Nd.timesN A Nd.star).subs.length cap25)).toArray)], (ak hk 27 (ak hk 29 (ak hk 30 (agree_nil _)))), ?_⟩
       have h77 := ((h46.ext hE49).ext hE1)
       refine WL.buildSlice (vs := [.agg (tcells (Nd.timesN A Nd.star) (.slice a25 (Nd.timesN A Nd.star).subs.length cap25)).toArray, .agg (tcells (Nd.timesN A Nd.star) (.slice a25 (Nd.timesN A Nd.star).subs.length cap25)).toArray]) (cells := (tcells (Nd.timesN A Nd.star) (.slice a25 (Nd.timesN A Nd.star).subs.length cap25) ++ tcells (Nd.timesN A Nd.star) (.slice a25 (Nd.timesN A Nd.star).subs.length cap25))) rfl rfl Ty.slice24 Ty.zero30 rfl rfl rfl rfl rfl rfl (fun b78 w83 hb79 hE82 hs80 hR81 => ?_)
       have hts78 := (NodesV.lit (n := 2) (ts := [(Nd.timesN A Nd.star), (Nd.timesN A Nd.star)]) hR81 (RowsL.cons (h77.ext hE82) (RowsL.cons (h77.ext hE82) (RowsL.nil' _))) rfl rfl (by decide)).lt
       exact dqE hbi hE82 ⟨_, _, rfl, (hts78.dom (by intro k h1; refine ⟨trivial, ?_, h1.2⟩; replace h1 := h1.1; intro x hxm; have hi := hbi.hi x hxm; have lo := hbi.lo x hxm; (try dsimp only at h1); (repeat' first | (guard_hyp h1 : _ ∨ _; refine Or.elim h1 (fun h1 => ?_) (fun h1 => ?_)) | (guard_hyp h1 : _ ∧ _; have hx := h1.2; replace h1 := h1.1)) <;> first | contradiction | omega | exact hx.1 x hxm))⟩
      ·intro σ β w1 hE1 hbi hk
       obtain ⟨_, hv75, a75, cap75, rfl, hts75⟩ := kn hk 31 rfl rfl
       have hts75 := hts75.lt
       have hlen75 := hts75.len
       refine ⟨[(164, .bool true), (168, .slice a75 (([(Nd.timesN A Nd.star), (Nd.timesN A Nd.star)]).length) cap75)], (ak hk 27 (ag hv75 (agree_nil _))), ?_⟩
       refine WL.call rfl rfl rfl Ty.ent15 (seq_ok _ _ _ _ ([(Nd.timesN A Nd.star), (Nd.timesN A Nd.star)]) hts75 (Nat.le_of_ble_eq_true rfl)) ?_
       rintro _ w78 ⟨l76, rfl, hr76, hE77⟩
       refine ⟨_, rfl, ?_⟩
       have hn76 := hr76.lt
       obtain ⟨a76, cap76, rfl, hts76, hlen76⟩ := hn76.op2
       exact dqE hbi hE77 ⟨_, rfl, (hr76.off0 hbi (fun k hk => Nat.le_trans hE1.size hk))⟩
      ·intro σ β w1 hE1 hbi hk
       have hz1 := hE1.size
       obtain ⟨_, hv76, l76, rfl, hn76⟩ := kn hk 32 rfl rfl
       have hn76 := hn76.lt
       obtain ⟨a76, cap76, rfl, hts76, hlen76⟩ := hn76.op2
       refine ⟨[(164, .bool true), (165, .func (.func 16) #[] #[]), (169, .agg (tcells (Nd.seq ([(Nd.timesN A Nd.star), (Nd.timesN A Nd.star)])) (.slice a76 (Nd.seq ([(Nd.timesN A Nd.star), (Nd.timesN A Nd.star)])).subs.length cap76)).toArray)], (ak hk 27 (ak hk 28 (ag hv76 (agree_nil _)))), ?_⟩
       refine WL.callv rfl rfl rfl rfl Ty.ent16 (Calls.caps0 (counts1_ok _ _ _ (Nd.seq ([(Nd.timesN A Nd.star), (Nd.timesN A Nd.star)])) hn76 (hC.sides (by omega) (by omega)).f3.1.clean (hC.sides (by omega) (by omega)).f3.1 (hC.sides (by omega) (by omega)).f3.2)) ?_
       rintro _ w79 ⟨l77, rfl, hr77, hE78⟩
       have hzhE78 := hE78.size
       refine ⟨_, rfl, ?_⟩
       rw [(hC.sides (by omega) (by omega)).s] at hr77
       have hn77 := hr77.lt
       obtain ⟨a77, cap77, rfl, hts77, hlen77⟩ := hn77.op2
       exact dqE hbi hE78 ⟨_, rfl, (hr77.off0 hbi (fun k hk => Nat.le_trans hE1.size hk))⟩
      ·intro σ β w1 hE1 hbi hk
       refine ⟨[(164, .bool true)], (ak hk 27 (agree_nil _)), ?_⟩
       have h75 := ((h45.ext hE49).ext hE1)
       refine WL.load_box rfl rfl rfl h75 Ty.agg30 ?_
       exact dq hbi rfl
      ·intro σ β w1 hE1 hbi hk
       have hz1 := hE1.size
       obtain ⟨_, hv75, l75, rfl, hn75⟩ := kn hk 33 rfl rfl
       have hn75 := hn75.lt
       obtain ⟨a75, cap75, rfl, hts75, hlen75⟩ := hn75.op2
       refine ⟨[(164, .bool true), (170, .agg (tcells (Nd.timesN A Nd.star) (.slice a75 (Nd.timesN A Nd.star).subs.length cap75)).toArray), (171, .agg (tcells (Nd.timesN A Nd.star) (.slice a25 (Nd.timesN A Nd.star).subs.length cap25)).toArray)], (ak hk 27 (ag hv75 (ak hk 34 (agree_nil _)))), ?_⟩
       have h77 := ((h46.ext hE49).ext hE1)
       refine WL.call rfl rfl rfl Ty.ent11 (Same_ok _ _ _ _ _ (Nd.timesN A Nd.star) (Nd.timesN A Nd.star) hn75 h77) ?_
       rintro _ w79 ⟨he, hE78⟩
       have hq : (Nd.light (Nd.timesN A Nd.star) && Nd.light (Nd.timesN A Nd.star) && Nd.same (Nd.timesN A Nd.star) (Nd.timesN A Nd.star)) = true := (Nd.Same_self (hS.fine (by omega)).light)
       rw [hq] at he
       subst he
       clear hq
       refine ⟨_, rfl, ?_⟩
       exact dqE hbi hE78 rfl
      ·intro σ β w1 hE1 hbi hk
       refine ⟨[(145, .bool false), (164, .bool true), (172, .bool true)], (ak hk 8 (ak hk 27 (ak hk 35 (agree_nil _)))), ?_⟩
       refine pT ?_
       exact dq hbi rfl
      ·intro σ β w1 hE1 hbi hk
       refine ⟨[(145, .bool false), (173, .bool true)], (ak hk 8 (ak hk 36 (agree_nil _))), ?_⟩
       refine pF ?_
       exact dq hbi rfl
      intro σ β w54 hE54 hbi54 hk
      have hz54 := hE54.size
      have hbi := hbi54
      refine WL.know [(174, .bool true)] (aj hk 37 (agree_nil _)) ?_
      refine asg ?_
      refine WL.dn ?_
      refine WC.ret (fun a_ ha => ?_)
      exact bodyPost_tmp rfl ha rfl ⟨rfl, ((((((((hB17.onto (((hE2.trans hE5).trans hE8).trans hE14) (by omega)).trans hE20).trans hE27).trans hE29).trans hE35).trans hE37).trans hE49).trans hE54)⟩
     | true =>
      have hp52 := beq_iff_eq.1 hc52
      have h53 := ((hts31.ext hE37).ext hE49)
      refine WC.weaken (r' := [(3, pt b10 0), (5, .func (.func 16) #[] #[]), (6, pt b24 0), (7, pt b25 0), (8, pt b26 0), (75, .slice (some ⟨b31, 0, none⟩) 3 3), (76, .int .i64 3), (77, .int .i64 (k : Int)), (78, .bool false), (136, .bool false)]) (s4 (s4 (sr rfl (sr rfl (subReg_nil _))))) ?_
      refine WC.draw 38 [137, 138, 139, 140, 141, 142, 143, 144, 145, 146, 147, 148, 149, 150, 151, 152, 153, 154, 155, 156, 157, 158, 159, 160, 161, 162, 163, 164, 165, 166, 167, 168, 169, 170, 171, 172, 173, 174] [pc (pt b10 0), pc (.int .u8 A.kind), pc (.bool false), pc (.bool false), pc (pt b10 0), pc (.int .u8 A.kind), pc (.bool true), pc (.bool true), pc (.bool true), pc (undef), pc (undef), pc (undef), pc (undef), pc (undef), pc (undef), pc (undef), pc (undef), pc (undef), pc (undef), pc (undef), pc (undef), pc (undef), pc (undef), pc (undef), pc (undef), pc (undef), pc (undef), pc (undef), pc (undef), pc (undef), pc (undef), pc (undef), pc (undef), pc (undef), pc (undef), pc (undef), pc (undef), pc (.bool true)] (by kernel_rfl) (by kernel_rfl) (k4 (k4 (k4 (k4 (k4 (k4 (k4 (k4 (k4 ⟨KW_pc _, KW_pc _, trivial⟩))))))))) rfl rfl rfl (sc4 ?_ ?_ ?_ ?_ (sc4 ?_ ?_ ?_ ?_ (sc4 ?_ ?_ ?_ ?_ (sc4 ?_ ?_ ?_ ?_ (sc4 ?_ ?_ ?_ ?_ (sc4 ?_ ?_ ?_ ?_ (sc4 ?_ ?_ ?_ ?_ (sc4 ?_ ?_ ?_ ?_ (sc4 ?_ ?_ ?_ ?_ (sc ?_ (sc ?_ (StepsOn.nil _)))))))))))) ?_
      ·intro σ β w1 hE1 hbi hk
       refine ⟨[], (agree_nil _), ?_⟩
       refine WL.fieldAddr rfl rfl Ty.fld30_0 rfl ?_
       exact dq hbi rfl
      ·intro σ β w1 hE1 hbi hk
       refine ⟨[(137, pt b10 0)], (ak hk 0 (agree_nil _)), ?_⟩
       have h75 := ((h41.ext hE49).ext hE1)
       refine WL.load_fld rfl rfl Ty.flat5 rfl h75 rfl ?_
       exact dq hbi rfl
      ·intro σ β w1 hE1 hbi hk
       refine ⟨[(138, .int .u8 A.kind)], (ak hk 1 (agree_nil _)), ?_⟩
       refine WL.eql (b := false) rfl rfl rfl rfl hc51 ?_
       exact dq hbi rfl
      ·intro σ β w1 hE1 hbi hk
       refine ⟨[(139, .bool false)], (ak hk 2 (agree_nil _)), ?_⟩
       refine mv ?_
       exact dq hbi rfl
      ·intro σ β w1 hE1 hbi hk
       refine ⟨[(140, .bool false)], (ak hk 3 (agree_nil _)), ?_⟩
       refine WL.fieldAddr rfl rfl Ty.fld30_0 rfl ?_
       exact dq hbi rfl
      ·intro σ β w1 hE1 hbi hk
       refine ⟨[(140, .bool false), (141, pt b10 0)], (ak hk 3 (ak hk 4 (agree_nil _))), ?_⟩
       have h76 := ((h41.ext hE49).ext hE1)
       refine WL.load_fld rfl rfl Ty.flat5 rfl h76 rfl ?_
       exact dq hbi rfl
      ·intro σ β w1 hE1 hbi hk
       refine ⟨[(140, .bool false), (142, .int .u8 A.kind)], (ak hk 3 (ak hk 5 (agree_nil _))), ?_⟩
       refine WL.eql (b := true) rfl rfl rfl rfl hc52 ?_
       exact dq hbi rfl
      ·intro σ β w1 hE1 hbi hk
       refine ⟨[(140, .bool false), (143, .bool true)], (ak hk 3 (ak hk 6 (agree_nil _))), ?_⟩
       refine pF ?_
       exact dq hbi rfl
      ·intro σ β w1 hE1 hbi hk
       refine ⟨[(144, .bool true)], (ak hk 7 (agree_nil _)), ?_⟩
       refine mv ?_
       exact dq hbi rfl
      ·intro σ β w1 hE1 hbi hk
       refine ⟨[(145, .bool true)], (ak hk 8 (agree_nil _)), ?_⟩
       refine ps ?_
       exact dq hbi rfl
      ·intro σ β w1 hE1 hbi hk
       refine ⟨[(145, .bool true)], (ak hk 8 (agree_nil _)), ?_⟩
       refine ps ?_
       exact dq hbi rfl
      ·intro σ β w1 hE1 hbi hk
       refine ⟨[(145, .bool true)], (ak hk 8 (agree_nil _)), ?_⟩
       refine ps ?_
       exact dq hbi rfl
      ·intro σ β w1 hE1 hbi hk
       refine ⟨[(145, .bool true), (147, undef), (148, undef)], (ak hk 8 (ak hk 10 (ak hk 11 (agree_nil _)))), ?_⟩
       refine ps ?_
       exact dq hbi rfl
      ·intro σ β w1 hE1 hbi hk
       refine ⟨[(145, .bool true), (149, undef)], (ak hk 8 (ak hk 12 (agree_nil _))), ?_⟩
       refine ps ?_
       exact dq hbi rfl
      ·intro σ β w1 hE1 hbi hk
       refine ⟨[(145, .bool true), (146, undef), (150, undef)], (ak hk 8 (ak hk 9 (ak hk 13 (agree_nil _)))), ?_⟩
       refine ps ?_
       exact dq hbi rfl
      ·intro σ β w1 hE1 hbi hk
       refine ⟨[(145, .bool true)], (ak hk 8 (agree_nil _)), ?_⟩
       refine ps ?_
       exact dq hbi rfl
      ·intro σ β w1 hE1 hbi hk
       refine ⟨[(145, .bool true), (151, undef), (152, undef)], (ak hk 8 (ak hk 14 (ak hk 15 (agree_nil _)))), ?_⟩
       refine ps ?_
       exact dq hbi rfl
      ·intro σ β w1 hE1 hbi hk
       refine ⟨[(145, .bool true), (153, undef)], (ak hk 8 (ak hk 16 (agree_nil _))), ?_⟩
       refine ps ?_
       exact dq hbi rfl
      ·intro σ β w1 hE1 hbi hk
       refine ⟨[(154, undef)], (ak hk 17 (agree_nil _)), ?_⟩
       refine ps ?_
       exact dq hbi rfl
      ·intro σ β w1 hE1 hbi hk
       refine ⟨[(154, undef)], (ak hk 17 (agree_nil _)), ?_⟩
       refine ps ?_
       exact dq hbi rfl
      ·intro σ β w1 hE1 hbi hk
       refine ⟨[(154, undef)], (ak hk 17 (agree_nil _)), ?_⟩
       refine ps ?_
       exact dq hbi rfl
      ·intro σ β w1 hE1 hbi hk
       refine ⟨[(154, undef), (156, undef), (157, undef)], (ak hk 17 (ak hk 19 (ak hk 20 (agree_nil _)))), ?_⟩
       refine ps ?_
       exact dq hbi rfl
      ·intro σ β w1 hE1 hbi hk
       refine ⟨[(154, undef), (158, undef)], (ak hk 17 (ak hk 21 (agree_nil _))), ?_⟩
       refine ps ?_
       exact dq hbi rfl
      ·intro σ β w1 hE1 hbi hk
       refine ⟨[(154, undef), (155, undef), (159, undef)], (ak hk 17 (ak hk 18 (ak hk 22 (agree_nil _)))), ?_⟩
       refine ps ?_
       exact dq hbi rfl
      ·intro σ β w1 hE1 hbi hk
       refine ⟨[(154, undef)], (ak hk 17 (agree_nil _)), ?_⟩
       refine ps ?_
       exact dq hbi rfl
      ·intro σ β w1 hE1 hbi hk
       refine ⟨[(154, undef), (160, undef), (161, undef)], (ak hk 17 (ak hk 23 (ak hk 24 (agree_nil _)))), ?_⟩
       refine ps ?_
       exact dq hbi rfl
      ·intro σ β w1 hE1 hbi hk
       refine ⟨[(145, .bool true), (154, undef), (162, undef)], (ak hk 8 (ak hk 17 (ak hk 25 (agree_nil _)))), ?_⟩
       refine ps ?_
       exact dq hbi rfl
      ·intro σ β w1 hE1 hbi hk
       refine ⟨[(145, .bool true), (163, undef)], (ak hk 8 (ak hk 26 (agree_nil _))), ?_⟩
       refine ps ?_
       exact dq hbi rfl
      ·intro σ β w1 hE1 hbi hk
       refine ⟨[(164, undef)], (ak hk 27 (agree_nil _)), ?_⟩
       refine ps ?_
       exact dq hbi rfl
      ·intro σ β w1 hE1 hbi hk
       refine ⟨[(164, undef)], (ak hk 27 (agree_nil _)), ?_⟩
       refine ps ?_
       exact dq hbi rfl
      ·intro σ β w1 hE1 hbi hk
       refine ⟨[(164, undef)], (ak hk 27 (agree_nil _)), ?_⟩
       refine ps ?_
       exact dq hbi rfl
      ·intro σ β w1 hE1 hbi hk
       refine ⟨[(164, undef), (166, undef), (167, undef)], (ak hk 27 (ak hk 29 (ak hk 30 (agree_nil _)))), ?_⟩
       refine ps ?_
       exact dq hbi rfl
      ·intro σ β w1 hE1 hbi hk
       refine ⟨[(164, undef), (168, undef)], (ak hk 27 (ak hk 31 (agree_nil _))), ?_⟩
       refine ps ?_
       exact dq hbi rfl
      ·intro σ β w1 hE1 hbi hk
       refine ⟨[(164, undef), (165, undef), (169, undef)], (ak hk 27 (ak hk 28 (ak hk 32 (agree_nil _)))), ?_⟩
       refine ps ?_
       exact dq hbi rfl
      ·intro σ β w1 hE1 hbi hk
       refine ⟨[(164, undef)], (ak hk 27 (agree_nil _)), ?_⟩
       refine ps ?_
       exact dq hbi rfl
      ·intro σ β w1 hE1 hbi hk
       refine ⟨[(164, undef), (170, undef), (171, undef)], (ak hk 27 (ak hk 33 (ak hk 34 (agree_nil _)))), ?_⟩
       refine ps ?_
       exact dq hbi rfl
      ·intro σ β w1 hE1 hbi hk
       refine ⟨[(145, .bool true), (164, undef), (172, undef)], (ak hk 8 (ak hk 27 (ak hk 35 (agree_nil _)))), ?_⟩
       refine ps ?_
       exact dq hbi rfl
      ·intro σ β w1 hE1 hbi hk
       refine ⟨[(145, .bool true), (173, undef)], (ak hk 8 (ak hk 36 (agree_nil _))), ?_⟩
       refine pT ?_
       exact dq hbi rfl
      intro σ β w54 hE54 hbi54 hk
      have hz54 := hE54.size
      have hbi := hbi54
      refine WL.know [(174, .bool true)] (aj hk 37 (agree_nil _)) ?_
      refine asg ?_
      refine WL.dn ?_
      refine WC.ret (fun a_ ha => ?_)
      exact bodyPost_tmp rfl ha rfl ⟨rfl, ((((((((hB17.onto (((hE2.trans hE5).trans hE8).trans hE14) (by omega)).trans hE20).trans hE27).trans hE29).trans hE35).trans hE37).trans hE49).trans hE54)⟩
    | true =>
     have hp51 := beq_iff_eq.1 hc51
     have h52 := ((hts31.ext hE37).ext hE49)
     refine WC.weaken (r' := [(3, pt b10 0), (5, .func (.func 16) #[] #[]), (6, pt b24 0), (7, pt b25 0), (8, pt b26 0), (75, .slice (some ⟨b31, 0, none⟩) 3 3), (76, .int .i64 3), (77, .int .i64 (k : Int)), (78, .bool false), (136, .bool false)]) (s4 (s4 (sr rfl (sr rfl (subReg_nil _))))) ?_
     refine WC.draw 38 [137, 138, 139, 140, 141, 142, 143, 144, 145, 146, 147, 148, 149, 150, 151, 152, 153, 154, 155, 156, 157, 158, 159, 160, 161, 162, 163, 164, 165, 166, 167, 168, 169, 170, 171, 172, 173, 174] [pc (pt b10 0), pc (.int .u8 A.kind), pc (.bool true), pc (.bool true), pc (undef), pc (undef), pc (undef), pc (.bool true), pc (.bool true), pc (undef), pc (undef), pc (undef), pc (undef), pc (undef), pc (undef), pc (undef), pc (undef), pc (undef), pc (undef), pc (undef), pc (undef), pc (undef), pc (undef), pc (undef), pc (undef), pc (undef), pc (undef), pc (undef), pc (undef), pc (undef), pc (undef), pc (undef), pc (undef), pc (undef), pc (undef), pc (undef), pc (undef), pc (.bool true)] (by kernel_rfl) (by kernel_rfl) (k4 (k4 (k4 (k4 (k4 (k4 (k4 (k4 (k4 ⟨KW_pc _, KW_pc _, trivial⟩))))))))) rfl rfl rfl (sc4 ?_ ?_ ?_ ?_ (sc4 ?_ ?_ ?_ ?_ (sc4 ?_ ?_ ?_ ?_ (sc4 ?_ ?_ ?_ ?_ (sc4 ?_ ?_ ?_ ?_ (sc4 ?_ ?_ ?_ ?_ (sc4 ?_ ?_ ?_ ?_ (sc4 ?_ ?_ ?_ ?_ (sc4 ?_ ?_ ?_ ?_ (sc ?_ (sc ?_ (StepsOn.nil _)))))))))))) ?_
     ·intro σ β w1 hE1 hbi hk
      refine ⟨[], (agree_nil _), ?_⟩
      refine WL.fieldAddr rfl rfl Ty.fld30_0 rfl ?_
      exact dq hbi rfl
     ·intro σ β w1 hE1 hbi hk
      refine ⟨[(137, pt b10 0)], (ak hk 0 (agree_nil _)), ?_⟩
      have h74 := ((h41.ext hE49).ext hE1)
      refine WL.load_fld rfl rfl Ty.flat5 rfl h74 rfl ?_
      exact dq hbi rfl
     ·intro σ β w1 hE1 hbi hk
      refine ⟨[(138, .int .u8 A.kind)], (ak hk 1 (agree_nil _)), ?_⟩
      refine WL.eql (b := true) rfl rfl rfl rfl hc51 ?_
      exact dq hbi rfl
     ·intro σ β w1 hE1 hbi hk
      refine ⟨[(139, .bool true)], (ak hk 2 (agree_nil _)), ?_⟩
      refine mv ?_
      exact dq hbi rfl
     ·intro σ β w1 hE1 hbi hk
      refine ⟨[(140, .bool true)], (ak hk 3 (agree_nil _)), ?_⟩
      refine ps ?_
      exact dq hbi rfl
     ·intro σ β w1 hE1 hbi hk
      refine ⟨[(140, .bool true), (141, undef)], (ak hk 3 (ak hk 4 (agree_nil _))), ?_⟩
      refine ps ?_
      exact dq hbi rfl
     ·intro σ β w1 hE1 hbi hk
      refine ⟨[(140, .bool true), (142, undef)], (ak hk 3 (ak hk 5 (agree_nil _))), ?_⟩
      refine ps ?_
      exact dq hbi rfl
     ·intro σ β w1 hE1 hbi hk
      refine ⟨[(140, .bool true), (143, undef)], (ak hk 3 (ak hk 6 (agree_nil _))), ?_⟩
      refine pT ?_
      exact dq hbi rfl
     ·intro σ β w1 hE1 hbi hk
      refine ⟨[(144, .bool true)], (ak hk 7 (agree_nil _)), ?_⟩
      refine mv ?_
      exact dq hbi rfl
     ·intro σ β w1 hE1 hbi hk
      refine ⟨[(145, .bool true)], (ak hk 8 (agree_nil _)), ?_⟩
      refine ps ?_
      exact dq hbi rfl
     ·intro σ β w1 hE1 hbi hk
      refine ⟨[(145, .bool true)], (ak hk 8 (agree_nil _)), ?_⟩
      refine ps ?_
      exact dq hbi rfl
     ·intro σ β w1 hE1 hbi hk
      refine ⟨[(145, .bool true)], (ak hk 8 (agree_nil _)), ?_⟩
      refine ps ?_
      exact dq hbi rfl
     ·intro σ β w1 hE1 hbi hk
      refine ⟨[(145, .bool true), (147, undef), (148, undef)], (ak hk 8 (ak hk 10 (ak hk 11 (agree_nil _)))), ?_⟩
      refine ps ?_
      exact dq hbi rfl
     ·intro σ β w1 hE1 hbi hk
      refine ⟨[(145, .bool true), (149, undef)], (ak hk 8 (ak hk 12 (agree_nil _))), ?_⟩
      refine ps ?_
      exact dq hbi rfl
     ·intro σ β w1 hE1 hbi hk
      refine ⟨[(145, .bool true), (146, undef), (150, undef)], (ak hk 8 (ak hk 9 (ak hk 13 (agree_nil _)))), ?_⟩
      refine ps ?_
      exact dq hbi rfl
     ·intro σ β w1 hE1 hbi hk
      refine ⟨[(145, .bool true)], (ak hk 8 (agree_nil _)), ?_⟩
      refine ps ?_
      exact dq hbi rfl
     ·intro σ β w1 hE1 hbi hk
      refine ⟨[(145, .bool true), (151, undef), (152, undef)], (ak hk 8 (ak hk 14 (ak hk 15 (agree_nil _)))), ?_⟩
      refine ps ?_
      exact dq hbi rfl
     ·intro σ β w1 hE1 hbi hk
      refine ⟨[(145, .bool true), (153, undef)], (ak hk 8 (ak hk 16 (agree_nil _))), ?_⟩
      refine ps ?_
      exact dq hbi rfl
     ·intro σ β w1 hE1 hbi hk
      refine ⟨[(154, undef)], (ak hk 17 (agree_nil _)), ?_⟩
      refine ps ?_
      exact dq hbi rfl
     ·intro σ β w1 hE1 hbi hk
      refine ⟨[(154, undef)], (ak hk 17 (agree_nil _)), ?_⟩
      refine ps ?_
      exact dq hbi rfl
     ·intro σ β w1 hE1 hbi hk
      refine ⟨[(154, undef)], (ak hk 17 (agree_nil _)), ?_⟩
      refine ps ?_
      exact dq hbi rfl
     ·intro σ β w1 hE1 hbi hk
      refine ⟨[(154, undef), (156, undef), (157, undef)], (ak hk 17 (ak hk 19 (ak hk 20 (agree_nil _)))), ?_⟩
      refine ps ?_
      exact dq hbi rfl
     ·intro σ β w1 hE1 hbi hk
      refine ⟨[(154, undef), (158, undef)], (ak hk 17 (ak hk 21 (agree_nil _))), ?_⟩
      refine ps ?_
      exact dq hbi rfl
     ·intro σ β w1 hE1 hbi hk
      refine ⟨[(154, undef), (155, undef), (159, undef)], (ak hk 17 (ak hk 18 (ak hk 22 (agree_nil _)))), ?_⟩
      refine ps ?_
      exact dq hbi rfl
     ·intro σ β w1 hE1 hbi hk
      refine ⟨[(154, undef)], (ak hk 17 (agree_nil _)), ?_⟩
      refine ps ?_
      exact dq hbi rfl
     ·intro σ β w1 hE1 hbi hk
      refine ⟨[(154, undef), (160, undef), (161, undef)], (ak hk 17 (ak hk 23 (ak hk 24 (agree_nil _)))), ?_⟩
      refine ps ?_
      exact dq hbi rfl
     ·intro σ β w1 hE1 hbi hk
      refine ⟨[(145, .bool true), (154, undef), (162, undef)], (ak hk 8 (ak hk 17 (ak hk 25 (agree_nil _)))), ?_⟩
      refine ps ?_
      exact dq hbi rfl
     ·intro σ β w1 hE1 hbi hk
      refine ⟨[(145, .bool true), (163, undef)], (ak hk 8 (ak hk 26 (agree_nil _))), ?_⟩
      refine ps ?_
      exact dq hbi rfl
     ·intro σ β w1 hE1 hbi hk
      refine ⟨[(164, undef)], (ak hk 27 (agree_nil _)), ?_⟩
      refine ps ?_
      exact dq hbi rfl
     ·intro σ β w1 hE1 hbi hk
      refine ⟨[(164, undef)], (ak hk 27 (agree_nil _)), ?_⟩
      refine ps ?_
      exact dq hbi rfl
     ·intro σ β w1 hE1 hbi hk
      refine ⟨[(164, undef)], (ak hk 27 (agree_nil _)), ?_⟩
      refine ps ?_
      exact dq hbi rfl
     ·intro σ β w1 hE1 hbi hk
      refine ⟨[(164, undef), (166, undef), (167, undef)], (ak hk 27 (ak hk 29 (ak hk 30 (agree_nil _)))), ?_⟩
      refine ps ?_
      exact dq hbi rfl
     ·intro σ β w1 hE1 hbi hk
      refine ⟨[(164, undef), (168, undef)], (ak hk 27 (ak hk 31 (agree_nil _))), ?_⟩
      refine ps ?_
      exact dq hbi rfl
     ·intro σ β w1 hE1 hbi hk
      refine ⟨[(164, undef), (165, undef), (169, undef)], (ak hk 27 (ak hk 28 (ak hk 32 (agree_nil _)))), ?_⟩
      refine ps ?_
      exact dq hbi rfl
     ·intro σ β w1 hE1 hbi hk
      refine ⟨[(164, undef)], (ak hk 27 (agree_nil _)), ?_⟩
      refine ps ?_
      exact dq hbi rfl
     ·intro σ β w1 hE1 hbi hk
      refine ⟨[(164, undef), (170, undef), (171, undef)], (ak hk 27 (ak hk 33 (ak hk 34 (agree_nil _)))), ?_⟩
      refine ps ?_
      exact dq hbi rfl
     ·intro σ β w1 hE1 hbi hk
      refine ⟨[(145, .bool true), (164, undef), (172, undef)], (ak hk 8 (ak hk 27 (ak hk 35 (agree_nil _)))), ?_⟩
      refine ps ?_
      exact dq hbi rfl
     ·intro σ β w1 hE1 hbi hk
      refine ⟨[(145, .bool true), (173, undef)], (ak hk 8 (ak hk 36 (agree_nil _))), ?_⟩
      refine pT ?_
      exact dq hbi rfl
     intro σ β w53 hE53 hbi53 hk
     have hz53 := hE53.size
     have hbi := hbi53
     refine WL.know [(174, .bool true)] (aj hk 37 (agree_nil _)) ?_
     refine asg ?_
     refine WL.dn ?_
     refine WC.ret (fun a_ ha => ?_)
     exact bodyPost_tmp rfl ha rfl ⟨rfl, ((((((((hB17.onto (((hE2.trans hE5).trans hE8).trans hE14) (by omega)).trans hE20).trans hE27).trans hE29).trans hE35).trans hE37).trans hE49).trans hE53)⟩
   | true =>
    refine WL.lss rfl rfl rfl rfl hc40 ?_
    have hp40 := of_decide_eq_true hc40
    refine WL.dn ?_
    refine WC.seqk ?_
    refine cT ?_
    refine WC.sk ?_
    refine WC.seqk ?_
    refine WC.block ?_
    refine sq ?_
    obtain ⟨t41, ht41⟩ : ∃ t, [(Nd.timesN A Nd.opt), (Nd.timesN A Nd.star), (Nd.timesN A Nd.plus)][k]? = some t := ⟨_, List.getElem?_eq_getElem (by show _ < 3; omega)⟩
    obtain ⟨eb41, eo41, el41, hea41, hD41, her41, hn41⟩ := (hts31.ext hE37).at ht41
    obtain ⟨a41, cap41, rfl, hts41, hlen41⟩ := hn41.op2
    cases hea41
    refine WL.indexAddr (i := k) rfl rfl Ty.slice24 rfl rfl rfl (by show _ < 3; omega) ?_
    refine WL.load_agg (l := tcells t41 (.slice a41 t41.subs.length cap41)) rfl rfl Ty.agg30 rfl her41 ?_
    refine WL.alloc rfl rfl Ty.zero30 rfl (fun b42 w47 hb43 hE46 hs44 hR45 => ?_)
    refine WL.store_box rfl rfl rfl hR45 Ty.agg30 rfl rfl (fun w50 hB49 hR48 => ?_)
    have hzhB49 := hB49.size
    refine WL.dn ?_
    refine WC.seqk ?_
    have h51 := (((hts31.ext hE37).ext hE46).bu hB49)
    have h52 := ((hn41.ext hE46).bu hB49)
    have h53 := (hB49.row ((((((hR16.ext hE20).ext hE27).ext hE29).ext hE35).ext hE37).ext hE46) (by omega))
    have h54 := (((((((h19.ext hE20).ext hE27).ext hE29).ext hE35).ext hE37).ext hE46).bu hB49)
    have h55 := (hB49.row ((((hR24.ext hE29).ext hE35).ext hE37).ext hE46) (by omega))
    have h56 := (((((hn24.ext hE29).ext hE35).ext hE37).ext hE46).bu hB49)
    have h57 := (hB49.row ((((hR25.ext hE29).ext hE35).ext hE37).ext hE46) (by omega))
    have h58 := (((((hn25.ext hE29).ext hE35).ext hE37).ext hE46).bu hB49)
    have h59 := (hB49.row ((((hR26.ext hE29).ext hE35).ext hE37).ext hE46) (by omega))
    have h60 := (((((hn26.ext hE29).ext hE35).ext hE37).ext hE46).bu hB49)
    refine WC.weaken (r' := [(3, pt b10 0), (5, .func (.func 16) #[] #[]), (6, pt b24 0), (7, pt b25 0), (8, pt b26 0), (75, .slice (some ⟨b31, 0, none⟩) 3 3), (76, .int .i64 3), (77, .int .i64 (k : Int)), (78, .bool true), (79, pt b31 (0 + k * 8)), (80, .agg (tcells t41 (.slice a41 t41.subs.length cap41)).toArray), (10, pt b42 0)]) (s4 (s4 (s4 (subReg_nil _)))) ?_
    refine WC.draw 12 [81, 82, 83, 84, 85, 86, 87, 88, 89, 90, 91, 92] [pc (pt b42 0), pc (.int .u8 t41.kind), pc (.bool false), pc (.bool false), pc (.func (.func 16) #[] #[]), pc (.agg (tcells t41 (.slice a41 t41.subs.length cap41)).toArray), pnode (fun k => w50.heap.size ≤ k) (Nd.R Nd.star t41), pnode (fun k => w50.heap.size ≤ k) (Nd.timesN t41 Nd.star), pc (.agg (tcells (Nd.timesN A Nd.star) (.slice a25 (Nd.timesN A Nd.star).subs.length cap25)).toArray), pc (.bool true), pc (.bool false), pc (.bool false)] (by kernel_rfl) (by kernel_rfl) (k4 ⟨KW_pc _, KW_pc _, KW_pnode _ _, KW_pnode _ _, k4 trivial⟩) rfl rfl rfl (sc4 ?_ ?_ ?_ ?_ (sc4 ?_ ?_ ?_ ?_ (sc4 ?_ ?_ ?_ ?_ (StepsOn.nil _)))) ?_
    ·intro σ β w1 hE1 hbi hk
     refine ⟨[], (agree_nil _), ?_⟩
     refine WL.fieldAddr rfl rfl Ty.fld30_0 rfl ?_
     exact dq hbi rfl
    ·intro σ β w1 hE1 hbi hk
     refine ⟨[(81, pt b42 0)], (ak hk 0 (agree_nil _)), ?_⟩
     refine WL.load_fld rfl rfl Ty.flat5 rfl (hR48.ext hE1) rfl ?_
     exact dq hbi rfl
    ·intro σ β w1 hE1 hbi hk
     have hz1 := hE1.size
     refine ⟨[(82, .int .u8 t41.kind)], (ak hk 1 (agree_nil _)), ?_⟩
     refine WL.eql (b := false) rfl rfl rfl rfl (beq_eq_false_iff_ne.2 (by have := Nd.nice_kind (hC.at ht41).1.ok.1; omega)) ?_
     exact dq hbi rfl
    ·intro σ β w1 hE1 hbi hk
     refine ⟨[(83, .bool false)], (ak hk 2 (agree_nil _)), ?_⟩
     refine mv ?_
     exact dq hbi rfl
    ·intro σ β w1 hE1 hbi hk
     refine ⟨[(84, .bool false)], (ak hk 3 (agree_nil _)), ?_⟩
     refine mv ?_
     exact dq hbi rfl
    ·intro σ β w1 hE1 hbi hk
     refine ⟨[(84, .bool false)], (ak hk 3 (agree_nil _)), ?_⟩
     refine WL.load_box rfl rfl rfl (hR48.ext hE1) Ty.agg30 ?_
     exact dq hbi rfl
    ·intro σ β w1 hE1 hbi hk
     have hz1 := hE1.size
     refine ⟨[(84, .bool false), (86, .agg (tcells t41 (.slice a41 t41.subs.length cap41)).toArray)], (ak hk 3 (ak hk 5 (agree_nil _))), ?_⟩
     refine WL.call rfl rfl rfl Ty.ent17 (times_ok _ _ _ t41 0 (-1) (h52.ext hE1)) ?_
     rintro _ w85 ⟨l83, rfl, hr83, hE84⟩
     have hzhE84 := hE84.size
     refine ⟨_, rfl, ?_⟩
     rw [(hC.at ht41).1.star (by omega)] at hr83
     have hn83 := hr83.lt
     obtain ⟨a83, cap83, rfl, hts83, hlen83⟩ := hn83.op2
     exact dqE hbi hE84 ⟨_, rfl, (hr83.off0 hbi (fun k hk => Nat.le_trans hE1.size hk))⟩
    ·intro σ β w1 hE1 hbi hk
     have hz1 := hE1.size
     obtain ⟨_, hv83, l83, rfl, hn83⟩ := kn hk 6 rfl rfl
     have hn83 := hn83.lt
     obtain ⟨a83, cap83, rfl, hts83, hlen83⟩ := hn83.op2
     refine ⟨[(84, .bool false), (85, .func (.func 16) #[] #[]), (87, .agg (tcells (Nd.R Nd.star t41) (.slice a83 (Nd.R Nd.star t41).subs.length cap83)).toArray)], (ak hk 3 (ak hk 4 (ag hv83 (agree_nil _)))), ?_⟩
     refine WL.callv rfl rfl rfl rfl Ty.ent16 (Calls.caps0 (counts1_ok _ _ _ (Nd.R Nd.star t41) hn83 ((hC.at ht41).1.R (by omega) (b := Nd.star) rfl).1.clean ((hC.at ht41).1.R (by omega) (b := Nd.star) rfl).1 ((hC.at ht41).1.R (by omega) (b := Nd.star) rfl).2)) ?_
     rintro _ w86 ⟨l84, rfl, hr84, hE85⟩
     refine ⟨_, rfl, ?_⟩
     rw [(hC.at ht41).1.norm Nd.star] at hr84
     have hn84 := hr84.lt
     obtain ⟨a84, cap84, rfl, hts84, hlen84⟩ := hn84.op2
     exact dqE hbi hE85 ⟨_, rfl, (hr84.off0 hbi (fun k hk => Nat.le_trans hE1.size hk))⟩
    ·intro σ β w1 hE1 hbi hk
     refine ⟨[(84, .bool false)], (ak hk 3 (agree_nil _)), ?_⟩
     refine WL.load_box rfl rfl rfl (h57.ext hE1) Ty.agg30 ?_
     exact dq hbi rfl
    ·intro σ β w1 hE1 hbi hk
     have hz1 := hE1.size
     obtain ⟨_, hv82, l82, rfl, hn82⟩ := kn hk 7 rfl rfl
     have hn82 := hn82.lt
     obtain ⟨a82, cap82, rfl, hts82, hlen82⟩ := hn82.op2
     refine ⟨[(84, .bool false), (88, .agg (tcells (Nd.timesN t41 Nd.star) (.slice a82 (Nd.timesN t41 Nd.star).subs.length cap82)).toArray), (89, .agg (tcells (Nd.timesN A Nd.star) (.slice a25 (Nd.timesN A Nd.star).subs.length cap25)).toArray)], (ak hk 3 (ag hv82 (ak hk 8 (agree_nil _)))), ?_⟩
     refine WL.call rfl rfl rfl Ty.ent11 (Same_ok _ _ _ _ _ (Nd.timesN t41 Nd.star) (Nd.timesN A Nd.star) hn82 (h58.ext hE1)) ?_
     rintro _ w85 ⟨he, hE84⟩
     have hq : (Nd.light (Nd.timesN t41 Nd.star) && Nd.light (Nd.timesN A Nd.star) && Nd.same (Nd.timesN t41 Nd.star) (Nd.timesN A Nd.star)) = true := (Nd.Same_eq (hC.at ht41).2 (hS.fine (by omega)).light)
     rw [hq] at he
     subst he
     clear hq
     refine ⟨_, rfl, ?_⟩
     exact dqE hbi hE84 rfl
    ·intro σ β w1 hE1 hbi hk
     refine ⟨[(84, .bool false), (90, .bool true)], (ak hk 3 (ak hk 9 (agree_nil _))), ?_⟩
     refine WL.not rfl rfl rfl ?_
     exact dq hbi rfl
    ·intro σ β w1 hE1 hbi hk
     refine ⟨[(84, .bool false), (91, .bool false)], (ak hk 3 (ak hk 10 (agree_nil _))), ?_⟩
     refine pF ?_
     exact dq hbi rfl
    intro σ β w61 hE61 hbi61 hk
    have hz61 := hE61.size
    have hbi := hbi61
    refine WL.know [(92, .bool false)] (aj hk 11 (agree_nil _)) ?_
    refine WL.dn ?_
    refine cF ?_
    refine WC.sk ?_
    refine WC.region ?_
    refine WL.add (v := (k : Int) + 1) rfl rfl rfl rfl (IntWalk.i64_in _ (by omega)) ?_
    refine mv ?_
    refine WL.nil (fun a_ ha => ?_)
    exact ⟨k + 1, _, ha.weaken (s4 (s4 (subReg_nil _))), ⟨rfl, ((hB49.onto (hE37.trans hE46) (by omega)).trans hE61), by omega⟩, by first | omega | (dsimp only; omega)⟩
  | true =>
   refine WL.eql rfl rfl rfl rfl hc23 ?_
   have hp23 := beq_iff_eq.1 hc23
   refine pF ?_
   refine WL.dn ?_
   refine cT ?_
   refine WC.seqk ?_
   refine WC.weaken (r' := [(2, .bool false), (12, .bool false), (3, pt b10 0), (20, .bool false), (28, .bool true)]) (s4 (sr rfl (subReg_nil _))) ?_
   refine WC.region ?_
   refine asg ?_
   refine WL.dn ?_
   refine WC.ret (fun a_ ha => ?_)
   refine ret_then ?_
   exact bodyPost_tmp rfl ha rfl ⟨rfl, ((hB17.onto (((hE2.trans hE5).trans hE8).trans hE14) (by omega)).trans hE20)⟩
end Go.Proofs.Yteenegaadlhjdaa
namespace Go.Proofs.Yteenegaadlhjdaa
open Go.RowKit Go.WideShapes Go.ChangeShapes Go.Deep
section
variable {H : Type} {enc : TypeId × Value → H} {P : Program}
theorem u8_wf {n : Int} (h : (Lit.int .u8 n).wf = true) : 0 ≤ n ∧ n ≤ 255 := by
  simp only [Lit.wf, Bool.and_eq_true, decide_eq_true_eq] at h
  exact h
theorem open_small {w : World} {base : Nat} {held : Bool} {t e : TypeId} {f0 f1 f2 : Field} {fuel : Nat} {v : Value} {x : DataW H × List MemPlace} (ht : P.underlying t = some (.slice e)) (he : P.underlying e = some (.struct #[f0, f1, f2]))
    (ce : P.cellsOf e = 3) (ho : f0.offset = 0 ∧ f1.offset = 1 ∧ f2.offset = 2) (hc : P.cellsOf f0.type = 1 ∧ P.cellsOf f1.type = 1 ∧ P.cellsOf f2.type = 1)
    (hu : P.underlying f0.type = some (.int .u8) ∧ P.underlying f1.type = some (.int .u8) ∧ P.underlying f2.type = some (.int .u8))
    (h : DataW.trod enc P w base (fun _ => true) held fuel t [v] = some x) : ∃ a cap xs, v = .slice a xs.length cap ∧ SmallV (fun _ => True) w (.slice a xs.length cap) xs := by
  rcases open_slice ht h with ⟨h0, -⟩ | ⟨a, len, cap, m, n, D, Pl, h0, hb, hl, hm, hmm, -, hx⟩
  · simp only [List.cons.injEq, and_true] at h0
    subst h0
    exact ⟨none, 0, [], rfl, ⟨none, 0, rfl, by simp, .inl rfl⟩, by simp⟩
  · simp only [List.cons.injEq, and_true] at h0
    subst h0
    have hmm : m = cap := by simpa using hmm
    subst hmm
    have each : ∀ i, i < len → ∃ y : Int × Int × Int, (∀ j u, (cells3 y)[j]? = some u → w.cell? (a.add (i * 3 + j)) = some u) ∧ (0 ≤ y.1 ∧ y.1 ≤ 255) ∧ (0 ≤ y.2.1 ∧ y.2.1 ≤ 255) ∧ 0 ≤ y.2.2 ∧ y.2.2 ≤ 255 := by
      intro i hi
      obtain ⟨cs', h1, h2⟩ := hx i (by omega)
      rw [ce] at h1
      obtain ⟨_, hlen, hcell⟩ := World.cells?_some h1
      obtain ⟨ys, k, _, _, _, hyl, hf⟩ := DataW.trod_struct he h2
      match ys, hyl, cs', hlen with
      | [y0, y1, y2], _, [v0, v1, v2], _ =>
        have g0 := hf 0 f0 rfl
        have g1 := hf 1 f1 rfl
        have g2 := hf 2 f2 rfl
        simp [ho.1, ho.2.1, ho.2.2, hc.1, hc.2.1, hc.2.2] at g0 g1 g2
        obtain ⟨n0, e0, _, w0⟩ := DataW.trod_int hu.1 g0
        obtain ⟨n1, e1, _, w1⟩ := DataW.trod_int hu.2.1 g1
        obtain ⟨n2, e2, _, w2⟩ := DataW.trod_int hu.2.2 g2
        simp only [List.cons.injEq, and_true] at e0 e1 e2
        subst e0; subst e1; subst e2
        have r0 := hcell 0 (by omega)
        have r1 := hcell 1 (by omega)
        have r2 := hcell 2 (by omega)
        rw [add_add] at r0 r1 r2
        refine ⟨(n0, n1, n2), ?_, ?_, ?_, ?_⟩
        · intro j u hj
          match j with
          | 0 => simp at hj; subst hj; simpa using r0
          | 1 => simp at hj; subst hj; simpa using r1
          | 2 => simp at hj; subst hj; simpa using r2
          | j + 3 => simp at hj
        · exact u8_wf w0
        · exact u8_wf w1
        · exact u8_wf w2
    obtain ⟨X, hX⟩ := choose_lt each
    refine ⟨some a, m, (List.range len).map X, by simp, ⟨some a, m, by simp, ?_, ?_⟩, ?_⟩
    · simp only [maxLen] at hm
      simp only [List.length_map, List.length_range]; simp at hm; omega
    · by_cases h0 : len = 0
      · left; subst h0; simp
      · right
        have hsp : a.spot = none := by
          have h1 := (hX 0 (by omega)).1 0 _ rfl
          cases hs : a.spot with
          | none => rfl
          | some s =>
            rw [Nat.zero_mul, Nat.add_zero] at h1
            have hz : a.add 0 = a := by simp [Addr.add]
            rw [hz] at h1
            unfold World.cell? at h1
            rw [hs] at h1
            revert h1
            split
            · intro h1; simp at h1
            · intro h1; cases h1
        obtain ⟨b, o, s⟩ := a
        simp only at hsp
        subst hsp
        refine ⟨b, o, rfl, trivial, fun i l hl j u hj => ?_⟩
        rw [List.getElem?_map] at hl
        have hi : i < len := by
          rcases Nat.lt_or_ge i len with h | h
          · exact h
          · rw [List.getElem?_eq_none (by simpa using h)] at hl; simp at hl
        rw [List.getElem?_range hi] at hl
        simp only [Option.map_some, Option.some.injEq] at hl
        subst hl
        have := (hX i hi).1 j u hj
        rw [addr_add] at this
        rw [Nat.add_assoc]; exact this
    · intro x hx
      obtain ⟨i, hi, rfl⟩ := List.mem_map.1 hx
      exact (hX i (by simpa using hi)).2
theorem post_of_below {f : Func} {s : ChangeSpec} {apart fresh handsOn again : Bool} {W W' : World} {args : Array Value} {v : Value} {ds gs : List (DataW H)} {before pa pv : List MemPlace}
    (hW : DataW.Whole enc P f.params.toList s.vars apart W args.toList ds gs before)
    (hres : ∀ (b : Nat) (sp : Nat → Bool) (hd : Bool), DataW.TrodAll enc P W' b sp hd f.resultTypes.toList (v.resultList f.resultTypes.size) (s.fn H (ds ++ gs)).results [])
    (hargs : ∀ sp : Nat → Bool, (∀ p ∈ before, sp p.block = true) → DataW.TrodAll enc P W' 0 sp true f.params.toList args.toList (s.fn H (ds ++ gs)).args pa)
    (hvars : ∀ sp : Nat → Bool, (∀ p ∈ before, sp p.block = true) → DataW.TrodVars enc P W' sp s.vars (s.fn H (ds ++ gs)).vars pv)
    (hps : before = pa ++ pv) (hb : Below W.heap.size W W')
    (hok : ∀ (j : Nat) (t : TypeId) (r : Value), f.resultTypes[j]? = some t → (v.resultList f.resultTypes.size)[j]? = some r → Value.okWide P W' .any 0 t r) :
    s.post enc P f apart fresh handsOn again W args v W' := by
  have hlt : ∀ p ∈ before, p.block < W.heap.size := fun p hp => hW.lt p hp
  have hold : ∀ p ∈ before, (fun b => decide (b < W.heap.size)) p.block = true := fun p hp => by simpa using hlt p hp
  refine ⟨ds, gs, before, [], pa, pv, hW, hres _ _ _, hargs _ hold, hvars _ hold, World.keptBut_mono (fun p hp => ⟨hp, ?_⟩) (hb.frame (· ∈ before)), fun _ => ?_⟩
  · rw [hps, List.mem_append] at hp
    exact Or.inr hp
  · obtain ⟨_, _, _, _, _, hz, hn⟩ := hW
    refine ⟨hok, _, _, ([] ++ pa) ++ pv, ⟨[] ++ pa, pv, trodAll_append (hargs _ (fun _ _ => rfl)) (hres _ _ _), hvars _ (fun _ _ => rfl), rfl, ?_, ?_⟩, ?_⟩
    · intro b off hp
      have hin : MemPlace.cell b off ∈ before := by rw [hps]; simpa using hp
      rw [hb.frozen (hlt _ hin)]
      exact hz b off hin
    · intro ha
      have := hn ha
      rw [hps] at this
      simpa using this
    · intro p hp _
      rw [hps]
      simpa using hp
theorem stay {t : TypeId} (hl : laidOutB P = true) (hr : P.readableRec t = true) (hrow : t < P.types.size) {W W' : World} {v : Value} {d : DataW H} {ps : List MemPlace}
    (h : DataW.Trod enc P W 0 (fun _ => true) true t v d ps) (hb : Below W.heap.size W W') (hlt : ∀ x ∈ ps, x.block < W.heap.size) {sp : Nat → Bool} (hs : ∀ x ∈ ps, sp x.block = true) : DataW.Trod enc P W' 0 sp true t v d ps :=
  WideElems.Trod_stays hl hr hrow h (fun x hx => hb.same (hlt x hx)) hs
end
end Go.Proofs.Yteenegaadlhjdaa
namespace Go.Proofs.Yteenegaadlhjdaa
open Go.ChangeShapes Go.WideShapes Go.ChangeAt Go.RowKit
theorem own_rxnormCounts : ownKnob Try.prog.godebug = none := by kernel_rfl
theorem laid_rxnormCounts : laidOutB Try.prog = true := by kernel_rfl
set_option maxRecDepth 100000 in
theorem lifted_rxnormCounts (os : Os) (started : os.Started) (H : Type) (enc : TypeId × Value → H) :
  ReturnsInHanded {} Try.checked os 5 .any (Rows.rxnormCountsSpec.pre6 enc Try.prog Try.f5 Rows.rxnormCountsRow.domain false) (Rows.rxnormCountsSpec.post enc Try.prog Try.f5 false true false false) := by
 refine returnsInHanded_of_change (C := Try.checked) own_rxnormCounts started (by kernel_rfl) Try.func5
  (ChangeSpec.witness6 (enc := enc) (C := Try.checked) false ⟨#[], #[.slice none 0 0], []⟩ 8 (by kernel_rfl) (by kernel_rfl) (by kernel_rfl) (by kernel_rfl)) ?_
 intro W base args ds gs before hval0 hW hcnd _
 have hval : ∀ (j : Nat) t v, Try.f5.params[j]? = some t → args[j]? = some v → Value.okWide Try.prog W .any base t v := hval0
 have hW' := hW
 obtain ⟨p, q, hA0, hV, rfl, hfz, hnd⟩ := hW
 have hA : DataW.TrodAll enc Try.prog W 0 (fun _ => true) true Try.f5.params.toList args.toList ds p := hA0
 rw [Try.params5] at hA hval
 obtain ⟨v0, d0, rfl, rfl, h0⟩ := trodAll_one hA
 obtain ⟨rfl, rfl⟩ := trodVars_none hV
 simp only [List.append_nil, List.nil_append, List.append_assoc] at hW'
 have k0 := h0
 have hlt0 : ∀ x ∈ p, x.block < W.heap.size := fun x hx => hW'.lt x (by simp [hx])
 obtain ⟨a0, len0, cap0, rfl⟩ := okWide_slice Try.underlying22 (hval 0 22 v0 rfl rfl)
 obtain ⟨fu0, e0⟩ := h0
 obtain ⟨b0, c0, xs0, hq0, hx0⟩ := open_small Try.underlying22 Try.underlying49 (by kernel_rfl) ⟨rfl, rfl, rfl⟩ ⟨by kernel_rfl, by kernel_rfl, by kernel_rfl⟩ ⟨Try.underlying5, Try.underlying5, Try.underlying5⟩ e0
 cases hq0
 clear hA0 hval0
 refine (RxnormCounts_ok W _ _ _ _ hx0 ).mono fun e W' ⟨he, hw⟩ => ?_
 subst he
 exact ⟨_, rfl, post_of_below (pa := p) (pv := []) hW' (fun _ _ _ => trodAll_mk1 (shut_bool Try.underlying4 true)) (fun sp hsp => trodAll_mk1 (stay laid_rxnormCounts (by kernel_rfl) (of_decide_eq_true (by kernel_rfl)) k0 hw.toBelow hlt0 (fun x hx => hsp x (by simp [hx])))) (fun _ _ => rfl) (by simp) hw.toBelow (ok_one (by kernel_rfl) rfl (okWide_bool_mk Try.underlying4 true))⟩
theorem rxnormCounts_holds : Rows.RxnormCountsSaid :=
 OpenClaim.holds_of_wide 5 Try.f5 rfl rfl rfl rfl rfl rfl rfl ⟨rfl, rfl, rfl, rfl, rfl⟩ rfl rfl rfl rfl rfl (by kernel_rfl) Try.func5 (by kernel_rfl)
  (of_decide_eq_true (by kernel_rfl)) (by unfold Func.isWrapper; rw [if_neg (by decide +kernel)]; exact ⟨rfl, rfl⟩)
  (fun os started H enc _ => lifted_rxnormCounts os started H enc)
end Go.Proofs.Yteenegaadlhjdaa
