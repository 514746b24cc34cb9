/- Walks through the program's functions: each computes what the plain Lean function says. Printed by our own gen/r8.py. -/
import Derived.Test.YtaggidjijekpbaaI
import Derived.Test.YtaggidjijekpbaaSmall
import Derived.Test.YtaggidjijekpbaaLawM
import Derived.KernelRfl
namespace Go.Proofs.Ytaggidjijekpbaa
open Go.Proofs Go.RowKit

set_option maxRecDepth 20000 in
set_option maxHeartbeats 4000000 in
theorem made_ok (D : Nat → Prop) (w : World) (a : Option Addr) (cap : Nat) (xs : List (Int × Int × Int)) (hxs : SmallV D w (.slice a xs.length cap) xs) :
    Calls Try.prog 9 #[.slice a xs.length cap] w fun e w' => ∃ l', e = .returned (.agg l'.toArray) ∧ NodeL (fun k => w.heap.size ≤ k) w' l' (Nd.made xs) ∧ Ext w w' := by
  have hlen := hxs.len
  have hxt := hxs.take25
  have hlt := hxt.len
  refine Calls.enter (args := [.slice a xs.length cap]) Try.func9 rfl rfl rfl rfl ?_
  refine WC.seqk ?_
  refine WC.region ?_
  refine WL.alloc rfl rfl Ty.zero29 rfl (fun b1 w6 hb2 hE5 hs3 hR4 => ?_)
  refine WL.done' ?_ (fun _ _ h => h)
  refine WC.seqk ?_
  refine WC.region ?_
  refine WL.assign rfl rfl rfl ?_
  refine WL.done' ?_ (fun _ _ h => h)
  refine WC.seqk ?_
  refine WC.region ?_
  refine WL.assign rfl rfl rfl ?_
  refine WL.assign rfl rfl rfl ?_
  refine WL.done' ?_ (fun _ _ h => h)
  refine WC.seqk ?_
  refine WC.seqk ?_
  refine WC.region ?_
  refine WL.move rfl rfl rfl ?_
  refine WL.move rfl rfl rfl ?_
  refine WL.len rfl rfl Try.underlying22 rfl ?_
  refine WL.min2 (v := minI xs.length 25) rfl rfl rfl rfl rfl ?_
  refine WL.slice_h (m := (xs.take 25).length) rfl rfl Ty.slice22 rfl rfl (min25 xs) (by omega) ?_
  refine WL.len rfl rfl Try.underlying22 rfl ?_
  refine WL.move rfl rfl rfl ?_
  refine WL.done' ?_ (fun _ _ h => h)
  refine WC.block ?_
  refine WC.weaken (r' := [(2, .pointer (some ⟨b1, 0, none⟩)), (20, .slice a ((xs.take 25).length) cap), (21, .int .i64 ((xs.take 25).length)), (22, .int .i64 0), (3, .slice none 0 0), (4, .int .i64 1), (5, .int .i64 0)]) (subReg_cons rfl (subReg_cons rfl (subReg_cons rfl (subReg_cons rfl (subReg_cons rfl (subReg_cons rfl (subReg_cons rfl (subReg_nil _)))))))) ?_
  refine WC.loop (σ := Nat × Value × Nd.M3) (fun s r_ w_ => r_ = [(2, .pointer (some ⟨b1, 0, none⟩)), (20, .slice a ((xs.take 25).length) cap), (21, .int .i64 ((xs.take 25).length)), (22, .int .i64 (s.1 : Int)), (3, s.2.1), (4, .int .i64 s.2.2.u), (5, .int .i64 s.2.2.g)] ∧ Ext w w_ ∧ (s.1 ≤ (xs.take 25).length ∧ w6.heap.size ≤ w_.heap.size ∧ s.2.2 = Nd.madeSt ((xs.take 25).take s.1) ∧ Row w_ b1 [.int .u8 0, .int .u64 0, .int .u64 0, .int .u64 0, .int .u64 0, .int .i64 0, .int .i64 0, .slice none 0 0] 29 ∧ OwnV 29 w6.heap.size (fun k => w6.heap.size ≤ k) w_ s.2.1 s.2.2.pile)) (fun s => (xs.take 25).length - s.1) (0, .slice none 0 0, ⟨[], 1, 0⟩) ⟨rfl, hE5, ⟨Nat.zero_le _, Nat.le_refl _, rfl, hR4, OwnV.nil _ _ _ _⟩⟩ ?_
  rintro ⟨k, v, m⟩ r_ w9 ⟨rfl, hE7, hI8⟩
  have hzhE7 := hE7.size
  dsimp only at hI8
  obtain ⟨hk, hWw, hst, hR2, hO⟩ := hI8
  have hbd := Nd.madeSt_bd ((xs.take 25).take k)
  rw [← hst] at hbd
  obtain ⟨pile, u, gr⟩ := m
  obtain ⟨hb1, hb2, hb3, hb4, hb5, hb6⟩ := hbd
  dsimp only at hst hO hb1 hb2 hb3 hb4 hb5 hb6
  have hO := hO.dom (D' := fun k => w6.heap.size ≤ k ∧ k < w9.heap.size) (fun k h1 h2 _ => ⟨h1, h2⟩)
  have hb7 : pile.length ≤ 25 := by have := hb1; rw [List.length_take, List.length_take] at this; omega
  have hb8 : Nd.sizeL pile ≤ 25 := by have := hb2; rw [List.length_take, List.length_take] at this; omega
  clear hb1 hb2
  obtain ⟨ap, capp, rfl, hnn, hxx⟩ := hO.cases
  have hol := hO.own
  have hcapp := hO.nodes.len
  have hts := hO.nodes.lt
  have hM := hO.mix
  refine WC.weaken (r' := [(2, .pointer (some ⟨b1, 0, none⟩)), (20, .slice a ((xs.take 25).length) cap), (21, .int .i64 ((xs.take 25).length)), (22, .int .i64 (k : Int)), (3, .slice ap pile.length capp), (4, .int .i64 u), (5, .int .i64 gr)]) (subReg_cons rfl (subReg_cons rfl (subReg_cons rfl (subReg_cons rfl (subReg_cons rfl (subReg_cons rfl (subReg_cons rfl (subReg_nil _)))))))) ?_
  refine WC.seqk ?_
  refine WC.region ?_
  cases hc10 : decide (((k : Int) : Int) < ((xs.take 25).length)) with
  | false =>
    refine WL.lss rfl rfl rfl rfl hc10 ?_
    have hp10 := of_decide_eq_false hc10
    refine WL.done' ?_ (fun _ _ h => h)
    refine WC.seqk ?_
    refine WC.cond_f rfl ?_
    refine WC.exit (fun a_ ha => ?_)
    refine exit_then ?_
    refine exit_then ?_
    refine exit_here ?_
    refine WC.at ?_ ha
    refine WC.seqk ?_
    refine WC.seqk ?_
    refine WC.region ?_
    refine WL.move rfl rfl rfl ?_
    refine WL.len rfl rfl Try.underlying27 rfl ?_
    cases hc11 : ((pile.length : Int) == 0) with
    | false =>
      refine WL.eql rfl rfl rfl rfl hc11 ?_
      have hp11 := beq_eq_false_iff_ne.1 hc11
      refine WL.done' ?_ (fun _ _ h => h)
      refine WC.cond_f rfl ?_
      refine WC.skip'' ?_ (fun _ _ h => h)
      refine WC.seqk ?_
      refine WC.region ?_
      refine WL.move rfl rfl rfl ?_
      have hrest := (hts).drop1 (by omega)
      obtain ⟨t12, ht12⟩ : ∃ t, pile[0]? = some t := ⟨_, List.getElem?_eq_getElem (by omega)⟩
      obtain ⟨eb12, el12, hea12, hgb12, hgl12, her12, hn12⟩ := hM.at ht12
      obtain ⟨sl12, rfl, hts12⟩ := hn12.opn
      obtain ⟨a12, cap12, rfl, hlen12, -⟩ := hts12.get
      subst hea12
      refine WL.indexAddr (i := 0) rfl rfl Ty.slice27 rfl rfl rfl (by omega) ?_
      refine WL.load_agg (l := tcells t12 (.slice a12 t12.subs.length cap12)) rfl rfl Ty.agg29 rfl her12 ?_
      refine WL.alloc rfl rfl Ty.zero29 rfl (fun b13 w18 hb14 hE17 hs15 hR16 => ?_)
      refine WL.store_box rfl rfl rfl hR16 Ty.agg29 rfl rfl (fun w21 hB20 hR19 => ?_)
      have hzhB20 := hB20.size
      refine WL.done' ?_ (fun _ _ h => h)
      refine WC.seqk ?_
      refine WC.seqk ?_
      refine WC.region ?_
      refine WL.move rfl rfl rfl ?_
      refine WL.slice_l (m := 1) rfl rfl Ty.slice27 rfl rfl rfl (by omega) ?_
      refine WL.len rfl rfl Try.underlying27 rfl ?_
      refine WL.move rfl rfl rfl ?_
      refine WL.done' ?_ (fun _ _ h => h)
      refine WC.block ?_
      generalize hA : (if capp = 1 then (some ⟨eb12, 0, none⟩) else Option.map (fun z => Addr.add z (1 * 8)) (some ⟨eb12, 0, none⟩)) = ar at hrest ⊢
      have h22 := (hB20.row (hR2.ext hE17) (by omega))
      have h23 := ((hn12.ext hE17).but hB20 (by intro h1; first | omega | ((try dsimp only at h1); (repeat' first | (guard_hyp h1 : _ ∨ _; refine Or.elim h1 (fun h1 => ?_) (fun h1 => ?_)) | (guard_hyp h1 : _ ∧ _; have hx := h1.2; replace h1 := h1.1)) <;> first | contradiction | omega)))
      refine WC.weaken (r' := [(2, .pointer (some ⟨b1, 0, none⟩)), (13, .pointer (some ⟨b13, 0, none⟩)), (193, .slice ar (pile.length - 1 : Nat) (capp - 1)), (194, .int .i64 (pile.length - 1 : Nat)), (195, .int .i64 0)]) (subReg_cons rfl (subReg_cons rfl (subReg_cons rfl (subReg_cons rfl (subReg_cons rfl (subReg_nil _)))))) ?_
      refine WC.loop (σ := Nat × List Value) (fun s r_ w_ => r_ = [(2, .pointer (some ⟨b1, 0, none⟩)), (13, .pointer (some ⟨b13, 0, none⟩)), (193, .slice ar (pile.length - 1 : Nat) (capp - 1)), (194, .int .i64 (pile.length - 1 : Nat)), (195, .int .i64 (s.1 : Int))] ∧ Ext w9 w_ ∧ (s.1 ≤ pile.length - 1 ∧ w9.heap.size + 1 ≤ w_.heap.size ∧ Row w_ b1 [.int .u8 0, .int .u64 0, .int .u64 0, .int .u64 0, .int .u64 0, .int .i64 0, .int .i64 0, .slice none 0 0] 29 ∧ Row w_ b13 s.2 29 ∧ NodeL (fun k => w6.heap.size ≤ k ∧ k ≠ b13) w_ s.2 (((pile.drop 1).take s.1).foldl (Nd.joins 4) t12))) (fun s => pile.length - 1 - s.1) (0, [.int .u8 t12.kind, .int .u64 t12.set.a, .int .u64 t12.set.b, .int .u64 t12.set.c, .int .u64 t12.set.d, .int .i64 t12.least, .int .i64 t12.most, .slice a12 t12.subs.length cap12]) ⟨rfl, (hB20.onto hE17 (by omega)), ⟨Nat.zero_le _, by omega, h22, hR19, (h23.dom (by intro k h1; (try dsimp only at h1); (repeat' first | (guard_hyp h1 : _ ∨ _; refine Or.elim h1 (fun h1 => ?_) (fun h1 => ?_)) | (guard_hyp h1 : _ ∧ _; have hx := h1.2; replace h1 := h1.1)) <;> first | contradiction | omega | (dsimp only; omega)))⟩⟩ ?_
      rintro ⟨k, l13⟩ r_ w26 ⟨rfl, hE24, hI25⟩
      have hzhE24 := hE24.size
      dsimp only at hI25
      obtain ⟨hk2, hWw2, hR2, hR13, hN⟩ := hI25
      have hN := hN.lt
      obtain ⟨sl27, rfl, hts27⟩ := hN.opn
      obtain ⟨a27, cap27, rfl, hlen27, -⟩ := hts27.get
      refine WC.weaken (r' := [(2, .pointer (some ⟨b1, 0, none⟩)), (13, .pointer (some ⟨b13, 0, none⟩)), (193, .slice ar (pile.length - 1 : Nat) (capp - 1)), (194, .int .i64 (pile.length - 1 : Nat)), (195, .int .i64 (k : Int))]) (subReg_cons rfl (subReg_cons rfl (subReg_cons rfl (subReg_cons rfl (subReg_cons rfl (subReg_nil _)))))) ?_
      refine WC.seqk ?_
      refine WC.region ?_
      cases hc28 : decide (((k : Int) : Int) < (pile.length - 1 : Nat)) with
      | false =>
        refine WL.lss rfl rfl rfl rfl hc28 ?_
        have hp28 := of_decide_eq_false hc28
        refine WL.done' ?_ (fun _ _ h => h)
        refine WC.seqk ?_
        refine WC.cond_f rfl ?_
        refine WC.exit (fun a_ ha => ?_)
        refine exit_then ?_
        refine exit_then ?_
        refine exit_here ?_
        refine WC.at ?_ ha
        refine WC.seqk ?_
        refine WC.region ?_
        refine WL.load_box rfl rfl rfl hR13 Ty.agg29 ?_
        refine WL.store_box rfl rfl rfl hR2 Ty.agg29 rfl rfl (fun w31 hB30 hR29 => ?_)
        have hzhB30 := hB30.size
        refine WL.done' ?_ (fun _ _ h => h)
        refine WC.ret (fun a_ ha => ?_)
        exact bodyPost_cell (l := [.int .u8 (((pile.drop 1).take k).foldl (Nd.joins 4) t12).kind, .int .u64 (((pile.drop 1).take k).foldl (Nd.joins 4) t12).set.a, .int .u64 (((pile.drop 1).take k).foldl (Nd.joins 4) t12).set.b, .int .u64 (((pile.drop 1).take k).foldl (Nd.joins 4) t12).set.c, .int .u64 (((pile.drop 1).take k).foldl (Nd.joins 4) t12).set.d, .int .i64 (((pile.drop 1).take k).foldl (Nd.joins 4) t12).least, .int .i64 (((pile.drop 1).take k).foldl (Nd.joins 4) t12).most, .slice a27 (((pile.drop 1).take k).foldl (Nd.joins 4) t12).subs.length cap27]) rfl ha rfl Ty.agg29 hR29 ⟨_, rfl, (by rw [Nd.made_eq hst (by omega), Nd.madeEnd_at ht12]; have hkk : (pile.drop 1).take k = pile.drop 1 := List.take_of_length_le (by rw [List.length_drop]; omega); have hT : ((pile.drop 1).take k).foldl (Nd.joins 4) t12 = (pile.drop 1).foldl (Nd.joins 4) t12 := (by rw [hkk]); rw [← hT]; exact (hN.but hB30 (by intro h1; first | omega | ((try dsimp only at h1); (repeat' first | (guard_hyp h1 : _ ∨ _; refine Or.elim h1 (fun h1 => ?_) (fun h1 => ?_)) | (guard_hyp h1 : _ ∧ _; have hx := h1.2; replace h1 := h1.1)) <;> first | contradiction | omega))).dom (by intro k h1; (try dsimp only at h1); (repeat' first | (guard_hyp h1 : _ ∨ _; refine Or.elim h1 (fun h1 => ?_) (fun h1 => ?_)) | (guard_hyp h1 : _ ∧ _; have hx := h1.2; replace h1 := h1.1)) <;> first | contradiction | omega | (dsimp only; omega))), (hB30.onto (hE7.trans hE24) (by omega))⟩
      | true =>
        refine WL.lss rfl rfl rfl rfl hc28 ?_
        have hp28 := of_decide_eq_true hc28
        refine WL.done' ?_ (fun _ _ h => h)
        refine WC.seqk ?_
        refine WC.cond_t rfl ?_
        refine WC.skip'' ?_ (fun _ _ h => h)
        refine WC.seqk ?_
        refine WC.block ?_
        refine WC.seqk ?_
        refine WC.region ?_
        obtain ⟨t79, ht79⟩ : ∃ t, (pile.drop 1)[k]? = some t := ⟨_, List.getElem?_eq_getElem (by first | omega | (rw [List.length_drop]; omega))⟩
        obtain ⟨eb79, eo79, el79, hea79, hD79, her79, hn79⟩ := (hrest.ext hE24).at ht79
        obtain ⟨sl79, rfl, hts79⟩ := hn79.opn
        obtain ⟨a79, cap79, rfl, hlen79, -⟩ := hts79.get
        subst hea79
        refine WL.indexAddr (i := k) rfl rfl Ty.slice27 rfl rfl rfl (by first | omega | (rw [List.length_drop]; omega)) ?_
        refine WL.load_agg (l := tcells t79 (.slice a79 t79.subs.length cap79)) rfl rfl Ty.agg29 rfl her79 ?_
        refine WL.alloc rfl rfl Ty.zero29 rfl (fun b80 w85 hb81 hE84 hs82 hR83 => ?_)
        refine WL.store_box rfl rfl rfl hR83 Ty.agg29 rfl rfl (fun w88 hB87 hR86 => ?_)
        have hzhB87 := hB87.size
        refine WL.done' ?_ (fun _ _ h => h)
        refine WC.region ?_
        have h89 := (hB87.row (hR13.ext hE84) (by omega))
        refine WL.load_box rfl rfl rfl h89 Ty.agg29 ?_
        refine WL.load_box rfl rfl rfl hR86 Ty.agg29 ?_
        have h90 := ((hN.ext hE84).but hB87 (by intro h1; first | omega | ((try dsimp only at h1); (repeat' first | (guard_hyp h1 : _ ∨ _; refine Or.elim h1 (fun h1 => ?_) (fun h1 => ?_)) | (guard_hyp h1 : _ ∧ _; have hx := h1.2; replace h1 := h1.1)) <;> first | contradiction | omega)))
        have h91 := ((hn79.ext hE84).but hB87 (by intro h1; first | omega | ((try dsimp only at h1); (repeat' first | (guard_hyp h1 : _ ∨ _; refine Or.elim h1 (fun h1 => ?_) (fun h1 => ?_)) | (guard_hyp h1 : _ ∧ _; have hx := h1.2; replace h1 := h1.1)) <;> first | contradiction | omega)))
        refine WL.call rfl rfl rfl Ty.ent18 (joins_ok _ _ _ 4 _ _ (((pile.drop 1).take k).foldl (Nd.joins 4) t12) t79 h90 h91 (by have h1 := Nd.foldl_size ((pile.drop 1).take k) t12; have h2 := Nd.sizeL_take_le (pile.drop 1) k; have h3 := Nd.sizeL_drop1 ht12; have h4 : ((pile.drop 1).take k).length ≤ pile.length := (by rw [List.length_take, List.length_drop]; omega); omega) (by have h1 := Nd.size_le_sizeL (List.mem_of_getElem? ht79); have h2 := Nd.sizeL_drop1 ht12; omega)) ?_
        rintro _ w94 ⟨l92, rfl, hr92, hE93⟩
        have hzhE93 := hE93.size
        refine ⟨_, rfl, ?_⟩
        have hn92 := hr92.lt
        obtain ⟨sl92, rfl, hts92⟩ := hn92.opn
        obtain ⟨a92, cap92, rfl, hlen92, -⟩ := hts92.get
        refine WL.store_box rfl rfl rfl (h89.ext hE93) Ty.agg29 rfl rfl (fun w97 hB96 hR95 => ?_)
        have hzhB96 := hB96.size
        refine WL.done' ?_ (fun _ _ h => h)
        refine WC.region ?_
        refine WL.add (v := (k : Int) + 1) rfl rfl rfl rfl (IntWalk.i64_in _ (by omega)) ?_
        refine WL.move rfl rfl rfl ?_
        refine WL.nil (fun a_ ha => ?_)
        have h98 := (hB96.row ((hB87.row (hR2.ext hE84) (by omega)).ext hE93) (by omega))
        exact ⟨(k + 1, [.int .u8 (Nd.joins 4 (((pile.drop 1).take k).foldl (Nd.joins 4) t12) t79).kind, .int .u64 (Nd.joins 4 (((pile.drop 1).take k).foldl (Nd.joins 4) t12) t79).set.a, .int .u64 (Nd.joins 4 (((pile.drop 1).take k).foldl (Nd.joins 4) t12) t79).set.b, .int .u64 (Nd.joins 4 (((pile.drop 1).take k).foldl (Nd.joins 4) t12) t79).set.c, .int .u64 (Nd.joins 4 (((pile.drop 1).take k).foldl (Nd.joins 4) t12) t79).set.d, .int .i64 (Nd.joins 4 (((pile.drop 1).take k).foldl (Nd.joins 4) t12) t79).least, .int .i64 (Nd.joins 4 (((pile.drop 1).take k).foldl (Nd.joins 4) t12) t79).most, .slice a92 (Nd.joins 4 (((pile.drop 1).take k).foldl (Nd.joins 4) t12) t79).subs.length cap92]), _, ha.weaken (subReg_cons rfl (subReg_cons rfl (subReg_cons rfl (subReg_cons rfl (subReg_cons rfl (subReg_nil _)))))), ⟨rfl, (hB96.onto ((hB87.onto (hE24.trans hE84) (by omega)).trans hE93) (by omega)), ⟨by first | omega | (dsimp only; omega), by omega, h98, hR95, (by have ht := ht79; rw [List.take_add_one, ht, List.foldl_append]; exact (hn92.but hB96 (by intro h1; first | omega | ((try dsimp only at h1); (repeat' first | (guard_hyp h1 : _ ∨ _; refine Or.elim h1 (fun h1 => ?_) (fun h1 => ?_)) | (guard_hyp h1 : _ ∧ _; have hx := h1.2; replace h1 := h1.1)) <;> first | contradiction | omega))).dom (by intro k h1; (try dsimp only at h1); (repeat' first | (guard_hyp h1 : _ ∨ _; refine Or.elim h1 (fun h1 => ?_) (fun h1 => ?_)) | (guard_hyp h1 : _ ∧ _; have hx := h1.2; replace h1 := h1.1)) <;> first | contradiction | omega | (dsimp only; omega)))⟩⟩, by first | omega | (dsimp only; omega)⟩
    | true =>
      refine WL.eql rfl rfl rfl rfl hc11 ?_
      have hp11 := beq_iff_eq.1 hc11
      refine WL.done' ?_ (fun _ _ h => h)
      refine WC.cond_t rfl ?_
      refine WC.seqk ?_
      refine WC.region ?_
      refine WL.call rfl rfl rfl Ty.ent20 (class_ok _ ([97]) (by first | decide | exact Nd.lettersS_len _)) ?_
      rintro _ w64 ⟨l62, rfl, hr62, hE63⟩
      have hzhE63 := hE63.size
      refine ⟨_, rfl, ?_⟩
      have hn62 := hr62.lt
      obtain ⟨sl62, rfl, hts62⟩ := hn62.opn
      obtain ⟨a62, cap62, rfl, hlen62, -⟩ := hts62.get
      refine WL.store_box rfl rfl rfl (hR2.ext hE63) Ty.agg29 rfl rfl (fun w67 hB66 hR65 => ?_)
      have hzhB66 := hB66.size
      refine WL.done' ?_ (fun _ _ h => h)
      refine WC.ret (fun a_ ha => ?_)
      refine ret_then ?_
      exact bodyPost_cell (l := [.int .u8 (Nd.classS ([97])).kind, .int .u64 (Nd.classS ([97])).set.a, .int .u64 (Nd.classS ([97])).set.b, .int .u64 (Nd.classS ([97])).set.c, .int .u64 (Nd.classS ([97])).set.d, .int .i64 (Nd.classS ([97])).least, .int .i64 (Nd.classS ([97])).most, .slice a62 (Nd.classS ([97])).subs.length cap62]) rfl ha rfl Ty.agg29 hR65 ⟨_, rfl, (by rw [Nd.made_eq hst (by omega), Nd.madeEnd_nil (p := pile) (by omega)]; exact (hn62.but hB66 (by intro h1; first | omega | ((try dsimp only at h1); (repeat' first | (guard_hyp h1 : _ ∨ _; refine Or.elim h1 (fun h1 => ?_) (fun h1 => ?_)) | (guard_hyp h1 : _ ∧ _; have hx := h1.2; replace h1 := h1.1)) <;> first | contradiction | omega))).dom (by intro k h1; (try dsimp only at h1); (repeat' first | (guard_hyp h1 : _ ∨ _; refine Or.elim h1 (fun h1 => ?_) (fun h1 => ?_)) | (guard_hyp h1 : _ ∧ _; have hx := h1.2; replace h1 := h1.1)) <;> first | contradiction | omega | (dsimp only; omega))), (hB66.onto (hE7.trans hE63) (by omega))⟩
  | true =>
    refine WL.lss rfl rfl rfl rfl hc10 ?_
    have hp10 := of_decide_eq_true hc10
    refine WL.done' ?_ (fun _ _ h => h)
    refine WC.seqk ?_
    refine WC.cond_t rfl ?_
    refine WC.skip'' ?_ (fun _ _ h => h)
    refine WC.seqk ?_
    refine WC.block ?_
    refine WC.seqk ?_
    refine WC.region ?_
    obtain ⟨x61, hx61⟩ : ∃ x, (xs.take 25)[k]? = some x := ⟨_, List.getElem?_eq_getElem (by omega)⟩
    obtain ⟨eb61, eo61, hea61, her61, hxb61⟩ := (hxt.ext hE7).at hx61
    subst hea61
    refine WL.indexAddr (i := k) rfl rfl Ty.slice22 rfl rfl rfl (by omega) ?_
    refine WL.load_agg (l := cells3 x61) rfl rfl Ty.agg53 rfl her61 ?_
    refine WL.alloc rfl rfl Ty.zero53 rfl (fun b62 w67 hb63 hE66 hs64 hR65 => ?_)
    refine WL.store_box rfl rfl rfl hR65 Ty.agg53 rfl rfl (fun w70 hB69 hR68 => ?_)
    have hzhB69 := hB69.size
    refine WL.done' ?_ (fun _ _ h => h)
    refine WC.seqk ?_
    refine WC.region ?_
    refine WL.move rfl rfl rfl ?_
    refine WL.len rfl rfl Try.underlying27 rfl ?_
    refine WL.assign rfl rfl rfl ?_
    refine WL.done' ?_ (fun _ _ h => h)
    refine WC.seqk ?_
    refine WC.region ?_
    refine WL.fieldAddr rfl rfl Ty.fld53_0 rfl ?_
    refine WL.load_fld rfl rfl Ty.flat5 rfl hR68 rfl ?_
    refine WL.rem (v := (x61.1.tmod 12)) rfl rfl rfl rfl (by decide) rfl ?_
    refine WL.assign rfl rfl rfl ?_
    refine WL.done' ?_ (fun _ _ h => h)
    refine WC.block ?_
    refine WC.seqk ?_
    refine WC.region ?_
    refine WL.move rfl rfl rfl ?_
    cases hc71 : decide (((x61.1.tmod 12) : Int) < 4) with
    | false =>
      refine WL.lss rfl rfl rfl rfl hc71 ?_
      have hp71 := of_decide_eq_false hc71
      refine WL.assign rfl rfl rfl ?_
      refine WL.done' ?_ (fun _ _ h => h)
      refine WC.cond_f rfl ?_
      refine WC.seqk ?_
      refine WC.region ?_
      refine WL.move rfl rfl rfl ?_
      cases hc72 : (((x61.1.tmod 12) : Int) == 4) with
      | false =>
        refine WL.eql rfl rfl rfl rfl hc72 ?_
        have hp72 := beq_eq_false_iff_ne.1 hc72
        refine WL.assign rfl rfl rfl ?_
        refine WL.done' ?_ (fun _ _ h => h)
        refine WC.cond_f rfl ?_
        refine WC.seqk ?_
        refine WC.region ?_
        refine WL.move rfl rfl rfl ?_
        cases hc73 : decide (((x61.1.tmod 12) : Int) < 7) with
        | false =>
          refine WL.lss rfl rfl rfl rfl hc73 ?_
          have hp73 := of_decide_eq_false hc73
          refine WL.move rfl rfl rfl ?_
          refine WL.pass rfl rfl ?_
          refine WL.pass rfl rfl ?_
          refine WL.pick_f rfl rfl rfl rfl ?_
          refine WL.assign rfl rfl rfl ?_
          refine WL.done' ?_ (fun _ _ h => h)
          refine WC.cond_f rfl ?_
          refine WC.seqk ?_
          refine WC.region ?_
          refine WL.move rfl rfl rfl ?_
          cases hc74 : decide (((x61.1.tmod 12) : Int) < 9) with
          | false =>
            refine WL.lss rfl rfl rfl rfl hc74 ?_
            have hp74 := of_decide_eq_false hc74
            refine WL.move rfl rfl rfl ?_
            refine WL.pass rfl rfl ?_
            refine WL.pass rfl rfl ?_
            refine WL.pick_f rfl rfl rfl rfl ?_
            refine WL.assign rfl rfl rfl ?_
            refine WL.done' ?_ (fun _ _ h => h)
            refine WC.cond_f rfl ?_
            refine WC.seqk ?_
            refine WC.region ?_
            refine WL.move rfl rfl rfl ?_
            cases hc75 : (((x61.1.tmod 12) : Int) == 9) with
            | false =>
              refine WL.eql rfl rfl rfl rfl hc75 ?_
              have hp75 := beq_eq_false_iff_ne.1 hc75
              refine WL.move rfl rfl rfl ?_
              refine WL.pass rfl rfl ?_
              refine WL.pass rfl rfl ?_
              refine WL.pick_f rfl rfl rfl rfl ?_
              refine WL.move rfl rfl rfl ?_
              refine WL.pass rfl rfl ?_
              refine WL.pass rfl rfl ?_
              refine WL.pick_f rfl rfl rfl rfl ?_
              refine WL.assign rfl rfl rfl ?_
              refine WL.done' ?_ (fun _ _ h => h)
              refine WC.cond_f rfl ?_
              refine WC.seqk ?_
              refine WC.region ?_
              refine WL.move rfl rfl rfl ?_
              cases hc76 : decide ((9 : Int) < (x61.1.tmod 12)) with
              | false =>
                refine WL.gtr rfl rfl rfl rfl hc76 ?_
                have hp76 := of_decide_eq_false hc76
                refine WL.move rfl rfl rfl ?_
                refine WL.pass rfl rfl ?_
                refine WL.pass rfl rfl ?_
                refine WL.pick_f rfl rfl rfl rfl ?_
                refine WL.move rfl rfl rfl ?_
                refine WL.pass rfl rfl ?_
                refine WL.pass rfl rfl ?_
                refine WL.pass rfl rfl ?_
                refine WL.pass rfl rfl ?_
                refine WL.pass rfl rfl ?_
                refine WL.pass rfl rfl ?_
                refine WL.pass rfl rfl ?_
                refine WL.pick_f rfl rfl rfl rfl ?_
                refine WL.assign rfl rfl rfl ?_
                refine WL.done' ?_ (fun _ _ h => h)
                refine WC.cond_f rfl ?_
                refine WC.skip'' ?_ (fun _ _ h => h)
                refine WC.region ?_
                refine WL.add (v := (k : Int) + 1) rfl rfl rfl rfl (IntWalk.i64_in _ (by omega)) ?_
                refine WL.move rfl rfl rfl ?_
                refine WL.nil (fun a_ ha => ?_)
                have h77 := ((hO.ext hE66).but hB69 (fun h1 => by first | omega | (dsimp only at h1; omega)) (fun hk => by have := (hO.ext hE66).own _ hk; have := hol _ hk; omega))
                have h78 := (hB69.row (hR2.ext hE66) (by omega))
                exact ⟨(k + 1, .slice ap pile.length capp, ⟨pile, u, gr⟩), _, ha.weaken (subReg_cons rfl (subReg_cons rfl (subReg_cons rfl (subReg_cons rfl (subReg_cons rfl (subReg_cons rfl (subReg_cons rfl (subReg_nil _)))))))), ⟨rfl, (hB69.onto (hE7.trans hE66) (by omega)), ⟨by first | omega | (dsimp only; omega), by omega, (by rw [Nd.madeSt_succ hx61, ← hst]; simp only [Nd.stepM, hc71, hc72, hc73, hc74, hc75, hc76, Nd.mostM, Nd.empty, cond_false, Bool.false_and]), h78, (h77.dom (by intro k h1 _ _; (try dsimp only at h1); (repeat' first | (guard_hyp h1 : _ ∨ _; refine Or.elim h1 (fun h1 => ?_) (fun h1 => ?_)) | (guard_hyp h1 : _ ∧ _; have hx := h1.2; replace h1 := h1.1)) <;> first | contradiction | omega | (dsimp only; omega)))⟩⟩, by first | omega | (dsimp only; omega)⟩
              | true =>
                refine WL.gtr rfl rfl rfl rfl hc76 ?_
                have hp76 := of_decide_eq_true hc76
                refine WL.move rfl rfl rfl ?_
                refine WL.move rfl rfl rfl ?_
                cases hc127 : decide ((0 : Int) < pile.length) with
                | false =>
                  refine WL.gtr rfl rfl rfl rfl hc127 ?_
                  have hp127 := of_decide_eq_false hc127
                  refine WL.pick_t rfl rfl rfl rfl ?_
                  refine WL.move rfl rfl rfl ?_
                  refine WL.pass rfl rfl ?_
                  refine WL.pass rfl rfl ?_
                  refine WL.pass rfl rfl ?_
                  refine WL.pass rfl rfl ?_
                  refine WL.pass rfl rfl ?_
                  refine WL.pass rfl rfl ?_
                  refine WL.pass rfl rfl ?_
                  refine WL.pick_f rfl rfl rfl rfl ?_
                  refine WL.assign rfl rfl rfl ?_
                  refine WL.done' ?_ (fun _ _ h => h)
                  refine WC.cond_f rfl ?_
                  refine WC.skip'' ?_ (fun _ _ h => h)
                  refine WC.region ?_
                  refine WL.add (v := (k : Int) + 1) rfl rfl rfl rfl (IntWalk.i64_in _ (by omega)) ?_
                  refine WL.move rfl rfl rfl ?_
                  refine WL.nil (fun a_ ha => ?_)
                  have h128 := ((hO.ext hE66).but hB69 (fun h1 => by first | omega | (dsimp only at h1; omega)) (fun hk => by have := (hO.ext hE66).own _ hk; have := hol _ hk; omega))
                  have h129 := (hB69.row (hR2.ext hE66) (by omega))
                  exact ⟨(k + 1, .slice ap pile.length capp, ⟨pile, u, gr⟩), _, ha.weaken (subReg_cons rfl (subReg_cons rfl (subReg_cons rfl (subReg_cons rfl (subReg_cons rfl (subReg_cons rfl (subReg_cons rfl (subReg_nil _)))))))), ⟨rfl, (hB69.onto (hE7.trans hE66) (by omega)), ⟨by first | omega | (dsimp only; omega), by omega, (by rw [Nd.madeSt_succ hx61, ← hst]; simp only [Nd.stepM, hc71, hc72, hc73, hc74, hc75, hc76, hc127, Nd.mostM, Nd.empty, cond_false, Bool.false_and, Bool.and_false]), h129, (h128.dom (by intro k h1 _ _; (try dsimp only at h1); (repeat' first | (guard_hyp h1 : _ ∨ _; refine Or.elim h1 (fun h1 => ?_) (fun h1 => ?_)) | (guard_hyp h1 : _ ∧ _; have hx := h1.2; replace h1 := h1.1)) <;> first | contradiction | omega | (dsimp only; omega)))⟩⟩, by first | omega | (dsimp only; omega)⟩
                | true =>
                  refine WL.gtr rfl rfl rfl rfl hc127 ?_
                  have hp127 := of_decide_eq_true hc127
                  refine WL.pick_t rfl rfl rfl rfl ?_
                  refine WL.move rfl rfl rfl ?_
                  refine WL.move rfl rfl rfl ?_
                  refine WL.move rfl rfl rfl ?_
                  refine WL.sub (v := ((pile.length - 1 : Nat) : Int)) rfl rfl rfl rfl (by rw [IntWalk.i64_in _ (by omega)]; omega) ?_
                  have h178 := ((hM.ext hE66).but hB69 (by rintro i hi ⟨h1, h2⟩; first | omega | (dsimp only at h1; omega)) (fun hk => by have := (hM.ext hE66).block _ hk; have := hol _ hk; omega))
                  obtain ⟨t179, ht179⟩ : ∃ t, pile[(pile.length - 1)]? = some t := ⟨_, List.getElem?_eq_getElem (by omega)⟩
                  obtain ⟨eb179, el179, hea179, hgb179, hgl179, her179, hn179⟩ := h178.at ht179
                  obtain ⟨sl179, rfl, hts179⟩ := hn179.opn
                  obtain ⟨a179, cap179, rfl, hlen179, -⟩ := hts179.get
                  subst hea179
                  refine WL.indexAddr (i := (pile.length - 1)) rfl rfl Ty.slice27 rfl rfl rfl (by omega) ?_
                  refine WL.fieldAddr rfl rfl Ty.fld29_0 rfl ?_
                  refine WL.load_flat rfl rfl Ty.flat5 rfl (her179 0 _ rfl) ?_
                  cases hc180 : ((t179.kind : Int) != 1) with
                  | false =>
                    refine WL.neq rfl rfl rfl rfl hc180 ?_
                    have hp180 := bne_eq_false_iff_eq.1 hc180
                    refine WL.pick_t rfl rfl rfl rfl ?_
                    refine WL.assign rfl rfl rfl ?_
                    refine WL.done' ?_ (fun _ _ h => h)
                    refine WC.cond_f rfl ?_
                    refine WC.skip'' ?_ (fun _ _ h => h)
                    refine WC.region ?_
                    refine WL.add (v := (k : Int) + 1) rfl rfl rfl rfl (IntWalk.i64_in _ (by omega)) ?_
                    refine WL.move rfl rfl rfl ?_
                    refine WL.nil (fun a_ ha => ?_)
                    have h181 := ((hO.ext hE66).but hB69 (fun h1 => by first | omega | (dsimp only at h1; omega)) (fun hk => by have := (hO.ext hE66).own _ hk; have := hol _ hk; omega))
                    have h182 := (hB69.row (hR2.ext hE66) (by omega))
                    exact ⟨(k + 1, .slice (some ⟨eb179, 0, none⟩) pile.length capp, ⟨pile, u, gr⟩), _, ha.weaken (subReg_cons rfl (subReg_cons rfl (subReg_cons rfl (subReg_cons rfl (subReg_cons rfl (subReg_cons rfl (subReg_cons rfl (subReg_nil _)))))))), ⟨rfl, (hB69.onto (hE7.trans hE66) (by omega)), ⟨by first | omega | (dsimp only; omega), by omega, (by rw [Nd.madeSt_succ hx61, ← hst]; simp only [Nd.stepM, hc71, hc72, hc73, hc74, hc75, hc76, hc127, hc180, Nd.mostM, Nd.empty, Nd.top_at ht179, cond_false, Bool.false_and, Bool.and_true, Bool.and_false]), h182, (h181.dom (by intro k h1 _ _; (try dsimp only at h1); (repeat' first | (guard_hyp h1 : _ ∨ _; refine Or.elim h1 (fun h1 => ?_) (fun h1 => ?_)) | (guard_hyp h1 : _ ∧ _; have hx := h1.2; replace h1 := h1.1)) <;> first | contradiction | omega | (dsimp only; omega)))⟩⟩, by first | omega | (dsimp only; omega)⟩
                  | true =>
                    refine WL.neq rfl rfl rfl rfl hc180 ?_
                    have hp180 := bne_iff_ne.1 hc180
                    refine WL.pick_t rfl rfl rfl rfl ?_
                    refine WL.assign rfl rfl rfl ?_
                    refine WL.done' ?_ (fun _ _ h => h)
                    refine WC.cond_t rfl ?_
                    refine WC.seqk ?_
                    have h231 := ((hO.ext hE66).but hB69 (fun h1 => by first | omega | (dsimp only at h1; omega)) (fun hk => by have := (hO.ext hE66).own _ hk; have := hol _ hk; omega))
                    have h232 := (hB69.row (hR2.ext hE66) (by omega))
                    refine WC.weaken (r' := [(2, .pointer (some ⟨b1, 0, none⟩)), (20, .slice (some ⟨eb61, eo61, none⟩) ((xs.take 25).length) cap), (21, .int .i64 ((xs.take 25).length)), (22, .int .i64 (k : Int)), (3, .slice (some ⟨eb179, 0, none⟩) pile.length capp), (4, .int .i64 u), (5, .int .i64 gr), (23, .bool true), (24, .pointer (some ⟨eb61, eo61 + k * 3, none⟩)), (25, .agg #[.int .u8 x61.1, .int .u8 x61.2.1, .int .u8 x61.2.2]), (7, .pointer (some ⟨b62, 0, none⟩)), (26, .slice (some ⟨eb179, 0, none⟩) pile.length capp), (27, .int .i64 pile.length), (8, .int .i64 pile.length), (28, .pointer (some ⟨b62, 0, none⟩)), (29, .int .u8 x61.1), (30, .int .u8 (x61.1.tmod 12)), (9, .int .u8 (x61.1.tmod 12)), (32, .int .u8 (x61.1.tmod 12)), (33, .bool false), (31, .bool false), (42, .int .u8 (x61.1.tmod 12)), (43, .bool false), (41, .bool false), (49, .int .u8 (x61.1.tmod 12)), (50, .bool false), (51, .bool false), (52, undef), (53, undef), (54, .bool false), (48, .bool false), (75, .int .u8 (x61.1.tmod 12)), (76, .bool false), (77, .bool false), (78, undef), (79, undef), (80, .bool false), (74, .bool false), (101, .int .u8 (x61.1.tmod 12)), (102, .bool false), (103, .bool false), (104, undef), (105, undef), (106, .bool false), (107, .bool false), (108, undef), (109, undef), (110, .bool false), (100, .bool false), (124, .int .u8 (x61.1.tmod 12)), (125, .bool true), (126, .bool true), (127, .int .i64 pile.length), (128, .bool true), (129, .bool true), (130, .bool true), (131, .slice (some ⟨eb179, 0, none⟩) pile.length capp), (132, .int .i64 pile.length), (133, .int .i64 ((pile.length - 1 : Nat) : Int)), (134, .pointer (some ⟨eb179, 0 + (pile.length - 1) * 8, none⟩)), (135, .pointer (some ⟨eb179, 0 + (pile.length - 1) * 8 + 0, none⟩)), (136, .int .u8 t179.kind), (137, .bool true), (138, .bool true), (123, .bool true)]) (subReg_cons rfl (subReg_cons rfl (subReg_cons rfl (subReg_cons rfl (subReg_cons rfl (subReg_cons rfl (subReg_cons rfl (subReg_cons rfl (subReg_cons rfl (subReg_cons rfl (subReg_cons rfl (subReg_cons rfl (subReg_cons rfl (subReg_cons rfl (subReg_cons rfl (subReg_cons rfl (subReg_cons rfl (subReg_cons rfl (subReg_cons rfl (subReg_cons rfl (subReg_cons rfl (subReg_cons rfl (subReg_cons rfl (subReg_cons rfl (subReg_cons rfl (subReg_cons rfl (subReg_cons rfl (subReg_cons rfl (subReg_cons rfl (subReg_cons rfl (subReg_cons rfl (subReg_cons rfl (subReg_cons rfl (subReg_cons rfl (subReg_cons rfl (subReg_cons rfl (subReg_cons rfl (subReg_cons rfl (subReg_cons rfl (subReg_cons rfl (subReg_cons rfl (subReg_cons rfl (subReg_cons rfl (subReg_cons rfl (subReg_cons rfl (subReg_cons rfl (subReg_cons rfl (subReg_cons rfl (subReg_cons rfl (subReg_cons rfl (subReg_cons rfl (subReg_cons rfl (subReg_cons rfl (subReg_cons rfl (subReg_cons rfl (subReg_cons rfl (subReg_cons rfl (subReg_cons rfl (subReg_cons rfl (subReg_cons rfl (subReg_cons rfl (subReg_cons rfl (subReg_cons rfl (subReg_cons rfl (subReg_cons rfl (subReg_nil _)))))))))))))))))))))))))))))))))))))))))))))))))))))))))))))))))) ?_
                    refine WC.draw 9 [139, 140, 141, 142, 143, 144, 145, 146, 10] [pc (.pointer (some ⟨b62, 1, none⟩)), pc (.int .u8 x61.2.1), pc (.int .u8 (x61.2.1.tmod 3)), pc (.int .i64 (x61.2.1.tmod 3)), pc (.pointer (some ⟨b62, 2, none⟩)), pc (.int .u8 x61.2.2), pc (.int .u8 (x61.2.2.tmod 4)), pc (.int .i64 (x61.2.2.tmod 4)), pc (.int .i64 (x61.2.1.tmod 3))] (by kernel_rfl) (by kernel_rfl) ⟨KW_pc _, KW_pc _, KW_pc _, KW_pc _, KW_pc _, KW_pc _, KW_pc _, KW_pc _, KW_pc _, trivial⟩ rfl rfl rfl (StepsOn.cons ?_ (StepsOn.cons ?_ (StepsOn.cons ?_ (StepsOn.cons ?_ (StepsOn.cons ?_ (StepsOn.cons ?_ (StepsOn.cons ?_ (StepsOn.cons ?_ (StepsOn.cons ?_ (StepsOn.nil _)))))))))) ?_
                    · intro σ β w1 hE1 hbi hk
                      have hz1 := hE1.size
                      refine ⟨[], (agree_nil _), ?_⟩
                      refine WL.fieldAddr rfl rfl Ty.fld53_1 rfl ?_
                      refine WL.nil (fun a_ ha => ?_)
                      exact ⟨_, β, ha, (Ext.refl _), BExt.refl _ _, hbi.ext (Ext.refl _), rfl⟩
                    · intro σ β w1 hE1 hbi hk
                      have hz1 := hE1.size
                      obtain ⟨_, hv1433, rfl⟩ := hk 0 (by kernel_rfl) _ _ rfl rfl
                      refine ⟨[(139, .pointer (some ⟨b62, 1, none⟩))], (agree_cons (look_right rfl hv1433) (agree_nil _)), ?_⟩
                      refine WL.load_fld rfl rfl Ty.flat5 rfl (hR68.ext hE1) rfl ?_
                      refine WL.nil (fun a_ ha => ?_)
                      exact ⟨_, β, ha, (Ext.refl _), BExt.refl _ _, hbi.ext (Ext.refl _), rfl⟩
                    · intro σ β w1 hE1 hbi hk
                      have hz1 := hE1.size
                      obtain ⟨_, hv1533, rfl⟩ := hk 1 (by kernel_rfl) _ _ rfl rfl
                      refine ⟨[(140, .int .u8 x61.2.1)], (agree_cons (look_right rfl hv1533) (agree_nil _)), ?_⟩
                      refine WL.rem (v := (x61.2.1.tmod 3)) rfl rfl rfl rfl (by decide) rfl ?_
                      refine WL.nil (fun a_ ha => ?_)
                      exact ⟨_, β, ha, (Ext.refl _), BExt.refl _ _, hbi.ext (Ext.refl _), rfl⟩
                    · intro σ β w1 hE1 hbi hk
                      have hz1 := hE1.size
                      obtain ⟨_, hv1633, rfl⟩ := hk 2 (by kernel_rfl) _ _ rfl rfl
                      refine ⟨[(141, .int .u8 (x61.2.1.tmod 3))], (agree_cons (look_right rfl hv1633) (agree_nil _)), ?_⟩
                      refine WL.convInt (v := (x61.2.1.tmod 3)) rfl rfl Try.underlying5 Try.underlying3 rfl (by have := Nd.mod_bd (x := x61.2.1) (n := 3) (by omega) (by decide); exact IntWalk.i64_in _ (by omega)) ?_
                      refine WL.nil (fun a_ ha => ?_)
                      exact ⟨_, β, ha, (Ext.refl _), BExt.refl _ _, hbi.ext (Ext.refl _), rfl⟩
                    · intro σ β w1 hE1 hbi hk
                      have hz1 := hE1.size
                      refine ⟨[], (agree_nil _), ?_⟩
                      refine WL.fieldAddr rfl rfl Ty.fld53_2 rfl ?_
                      refine WL.nil (fun a_ ha => ?_)
                      exact ⟨_, β, ha, (Ext.refl _), BExt.refl _ _, hbi.ext (Ext.refl _), rfl⟩
                    · intro σ β w1 hE1 hbi hk
                      have hz1 := hE1.size
                      obtain ⟨_, hv1833, rfl⟩ := hk 4 (by kernel_rfl) _ _ rfl rfl
                      refine ⟨[(143, .pointer (some ⟨b62, 2, none⟩))], (agree_cons (look_right rfl hv1833) (agree_nil _)), ?_⟩
                      refine WL.load_fld rfl rfl Ty.flat5 rfl (hR68.ext hE1) rfl ?_
                      refine WL.nil (fun a_ ha => ?_)
                      exact ⟨_, β, ha, (Ext.refl _), BExt.refl _ _, hbi.ext (Ext.refl _), rfl⟩
                    · intro σ β w1 hE1 hbi hk
                      have hz1 := hE1.size
                      obtain ⟨_, hv1933, rfl⟩ := hk 5 (by kernel_rfl) _ _ rfl rfl
                      refine ⟨[(144, .int .u8 x61.2.2)], (agree_cons (look_right rfl hv1933) (agree_nil _)), ?_⟩
                      refine WL.rem (v := (x61.2.2.tmod 4)) rfl rfl rfl rfl (by decide) rfl ?_
                      refine WL.nil (fun a_ ha => ?_)
                      exact ⟨_, β, ha, (Ext.refl _), BExt.refl _ _, hbi.ext (Ext.refl _), rfl⟩
                    · intro σ β w1 hE1 hbi hk
                      have hz1 := hE1.size
                      obtain ⟨_, hv2033, rfl⟩ := hk 6 (by kernel_rfl) _ _ rfl rfl
                      refine ⟨[(145, .int .u8 (x61.2.2.tmod 4))], (agree_cons (look_right rfl hv2033) (agree_nil _)), ?_⟩
                      refine WL.convInt (v := (x61.2.2.tmod 4)) rfl rfl Try.underlying5 Try.underlying3 rfl (by have := Nd.mod_bd (x := x61.2.2) (n := 4) (by omega) (by decide); exact IntWalk.i64_in _ (by omega)) ?_
                      refine WL.nil (fun a_ ha => ?_)
                      exact ⟨_, β, ha, (Ext.refl _), BExt.refl _ _, hbi.ext (Ext.refl _), rfl⟩
                    · intro σ β w1 hE1 hbi hk
                      have hz1 := hE1.size
                      obtain ⟨_, hv2133, rfl⟩ := hk 3 (by kernel_rfl) _ _ rfl rfl
                      refine ⟨[(142, .int .i64 (x61.2.1.tmod 3))], (agree_cons (look_right rfl hv2133) (agree_nil _)), ?_⟩
                      refine WL.assign rfl rfl rfl ?_
                      refine WL.nil (fun a_ ha => ?_)
                      exact ⟨_, β, ha, (Ext.refl _), BExt.refl _ _, hbi.ext (Ext.refl _), rfl⟩
                    intro σ β w1132 hE1132 hbi1132 hk
                    have hz1132 := hE1132.size
                    have hbi := hbi1132
                    obtain ⟨_, hv1133, rfl⟩ := hk 7 (by decide) _ _ rfl rfl
                    obtain ⟨_, hv1134, rfl⟩ := hk 8 (by decide) _ _ rfl rfl
                    refine WL.know [(146, .int .i64 (x61.2.2.tmod 4)), (10, .int .i64 (x61.2.1.tmod 3))] (agree_cons (look_right rfl hv1133) (agree_cons (look_right rfl hv1134) (agree_nil _))) ?_
                    refine WL.assign rfl rfl rfl ?_
                    refine WL.done' ?_ (fun _ _ h => h)
                    refine WC.seqk ?_
                    refine WC.seqk ?_
                    refine WC.region ?_
                    refine WL.move rfl rfl rfl ?_
                    refine WL.move rfl rfl rfl ?_
                    cases hc1135 : decide (((x61.2.2.tmod 4) : Int) < (x61.2.1.tmod 3)) with
                    | false =>
                      refine WL.lss rfl rfl rfl rfl hc1135 ?_
                      have hp1135 := of_decide_eq_false hc1135
                      refine WL.move rfl rfl rfl ?_
                      refine WL.move rfl rfl rfl ?_
                      cases hc1136 : (((x61.2.2.tmod 4) : Int) == 0) with
                      | false =>
                        refine WL.eql rfl rfl rfl rfl hc1136 ?_
                        have hp1136 := beq_eq_false_iff_ne.1 hc1136
                        refine WL.pick_f rfl rfl rfl rfl ?_
                        refine WL.move rfl rfl rfl ?_
                        refine WL.move rfl rfl rfl ?_
                        cases hc1137 : (((x61.2.1.tmod 3) : Int) == 1) with
                        | false =>
                          refine WL.eql rfl rfl rfl rfl hc1137 ?_
                          have hp1137 := beq_eq_false_iff_ne.1 hc1137
                          refine WL.move rfl rfl rfl ?_
                          refine WL.pass rfl rfl ?_
                          refine WL.pass rfl rfl ?_
                          refine WL.pick_f rfl rfl rfl rfl ?_
                          refine WL.pick_f rfl rfl rfl rfl ?_
                          refine WL.done' ?_ (fun _ _ h => h)
                          refine WC.cond_f rfl ?_
                          refine WC.skip'' ?_ (fun _ _ h => h)
                          refine WC.seqk ?_
                          refine WC.region ?_
                          refine WL.move rfl rfl rfl ?_
                          refine WL.move rfl rfl rfl ?_
                          refine WL.max3 (v := Nd.max3 (x61.2.1.tmod 3) (x61.2.2.tmod 4) 1) rfl rfl rfl rfl rfl rfl ?_
                          refine WL.assign rfl rfl rfl ?_
                          refine WL.done' ?_ (fun _ _ h => h)
                          refine WC.seqk ?_
                          refine WC.region ?_
                          refine WL.move rfl rfl rfl ?_
                          refine WL.move rfl rfl rfl ?_
                          refine WL.mul (v := u * (Nd.max3 (x61.2.1.tmod 3) (x61.2.2.tmod 4) 1)) rfl rfl rfl rfl (IntWalk.i64_in _ (by have h1 := Nd.mod_bd (x := x61.2.1) (n := 3) (by omega) (by decide); have h2 := Nd.mod_bd (x := x61.2.2) (n := 4) (by omega) (by decide); have := Nd.mul_bd hb3 hb4 (Nd.max3_bd (a := x61.2.1.tmod 3) (b := x61.2.2.tmod 4) (by omega) (by omega)); omega)) ?_
                          cases hc1138 : decide (((u * (Nd.max3 (x61.2.1.tmod 3) (x61.2.2.tmod 4) 1)) : Int) ≤ 16) with
                          | false =>
                            refine WL.leq rfl rfl rfl rfl hc1138 ?_
                            have hp1138 := of_decide_eq_false hc1138
                            refine WL.done' ?_ (fun _ _ h => h)
                            refine WC.cond_f rfl ?_
                            refine WC.skip'' ?_ (fun _ _ h => h)
                            refine WC.region ?_
                            refine WL.add (v := (k : Int) + 1) rfl rfl rfl rfl (IntWalk.i64_in _ (by omega)) ?_
                            refine WL.move rfl rfl rfl ?_
                            refine WL.nil (fun a_ ha => ?_)
                            exact ⟨(k + 1, .slice (some ⟨eb179, 0, none⟩) pile.length capp, ⟨pile, u, gr⟩), _, ha.weaken (subReg_cons rfl (subReg_cons rfl (subReg_cons rfl (subReg_cons rfl (subReg_cons rfl (subReg_cons rfl (subReg_cons rfl (subReg_nil _)))))))), ⟨rfl, ((hB69.onto (hE7.trans hE66) (by omega)).trans hE1132), ⟨by first | omega | (dsimp only; omega), by omega, (by rw [Nd.madeSt_succ hx61, ← hst]; simp only [Nd.stepM, hc71, hc72, hc73, hc74, hc75, hc76, hc127, hc180, hc1135, hc1136, hc1137, hc1138, Nd.mostM, Nd.empty, Nd.top_at ht179, Bool.or_false, cond_true, cond_false, Bool.false_and, Bool.and_true]), (h232.ext hE1132), ((h231.ext hE1132).dom (by intro k h1 _ _; (try dsimp only at h1); (repeat' first | (guard_hyp h1 : _ ∨ _; refine Or.elim h1 (fun h1 => ?_) (fun h1 => ?_)) | (guard_hyp h1 : _ ∧ _; have hx := h1.2; replace h1 := h1.1)) <;> first | contradiction | omega | (dsimp only; omega)))⟩⟩, by first | omega | (dsimp only; omega)⟩
                          | true =>
                            refine WL.leq rfl rfl rfl rfl hc1138 ?_
                            have hp1138 := of_decide_eq_true hc1138
                            refine WL.done' ?_ (fun _ _ h => h)
                            refine WC.cond_t rfl ?_
                            refine WC.seqk ?_
                            refine WC.region ?_
                            refine WL.move rfl rfl rfl ?_
                            refine WL.move rfl rfl rfl ?_
                            refine WL.mul (v := u * (Nd.max3 (x61.2.1.tmod 3) (x61.2.2.tmod 4) 1)) rfl rfl rfl rfl (IntWalk.i64_in _ (by have h1 := Nd.mod_bd (x := x61.2.1) (n := 3) (by omega) (by decide); have h2 := Nd.mod_bd (x := x61.2.2) (n := 4) (by omega) (by decide); have := Nd.mul_bd hb3 hb4 (Nd.max3_bd (a := x61.2.1.tmod 3) (b := x61.2.2.tmod 4) (by omega) (by omega)); omega)) ?_
                            refine WL.assign rfl rfl rfl ?_
                            refine WL.done' ?_ (fun _ _ h => h)
                            refine WC.region ?_
                            refine WL.move rfl rfl rfl ?_
                            refine WL.move rfl rfl rfl ?_
                            refine WL.sub (v := ((pile.length - 1 : Nat) : Int)) rfl rfl rfl rfl (by rw [IntWalk.i64_in _ (by omega)]; omega) ?_
                            refine WL.move rfl rfl rfl ?_
                            refine WL.move rfl rfl rfl ?_
                            refine WL.sub (v := ((pile.length - 1 : Nat) : Int)) rfl rfl rfl rfl (by rw [IntWalk.i64_in _ (by omega)]; omega) ?_
                            refine WL.indexAddr (i := (pile.length - 1)) rfl rfl Ty.slice27 rfl rfl rfl (by omega) ?_
                            refine WL.load_agg (l := tcells t179 (.slice a179 t179.subs.length cap179)) rfl rfl Ty.agg29 rfl (her179.ext hE1132) ?_
                            refine WL.move rfl rfl rfl ?_
                            refine WL.move rfl rfl rfl ?_
                            refine WL.call rfl rfl rfl Ty.ent23 (rep_ok _ _ _ t179 (x61.2.1.tmod 3) (x61.2.2.tmod 4) (hn179.ext hE1132)) ?_
                            rintro _ w1191 ⟨l1189, rfl, hr1189, hE1190⟩
                            have hzhE1190 := hE1190.size
                            refine ⟨_, rfl, ?_⟩
                            have hn1189 := hr1189.lt
                            obtain ⟨sl1189, rfl, hts1189⟩ := hn1189.opn
                            obtain ⟨a1189, cap1189, rfl, hlen1189, -⟩ := hts1189.get
                            refine WL.indexAddr (i := (pile.length - 1)) rfl rfl Ty.slice27 rfl rfl rfl (by omega) ?_
                            have h1194 := ((h178.ext hE1132).ext hE1190)
                            refine WL.storeV (i := (pile.length - 1)) (T := (Nd.mk 5 Nd.zero (x61.2.1.tmod 3) (x61.2.2.tmod 4) [t179])) rfl Ty.agg29 rfl rfl h1194 (by omega) hn1189 (by first | (rintro k ⟨h1, h2⟩ h3; first | omega | (dsimp only at h1; omega))) (fun w1195 hB1193 hM1192 => ?_)
                            have hzhB1193 := hB1193.size
                            refine WL.done' ?_ (fun _ _ h => h)
                            refine WC.region ?_
                            refine WL.add (v := (k : Int) + 1) rfl rfl rfl rfl (IntWalk.i64_in _ (by omega)) ?_
                            refine WL.move rfl rfl rfl ?_
                            refine WL.nil (fun a_ ha => ?_)
                            have h1196 := (hB1193.row ((h232.ext hE1132).ext hE1190) (by omega))
                            exact ⟨(k + 1, .slice (some ⟨eb179, 0, none⟩) pile.length capp, ⟨(pile.set (pile.length - 1) (Nd.mk 5 Nd.zero (x61.2.1.tmod 3) (x61.2.2.tmod 4) [t179])), u * (Nd.max3 (x61.2.1.tmod 3) (x61.2.2.tmod 4) 1), gr⟩), _, ha.weaken (subReg_cons rfl (subReg_cons rfl (subReg_cons rfl (subReg_cons rfl (subReg_cons rfl (subReg_cons rfl (subReg_cons rfl (subReg_nil _)))))))), ⟨rfl, (hB1193.onto (((hB69.onto (hE7.trans hE66) (by omega)).trans hE1132).trans hE1190) (by omega)), ⟨by first | omega | (dsimp only; omega), by omega, (by rw [Nd.madeSt_succ hx61, ← hst]; simp only [Nd.stepM, hc71, hc72, hc73, hc74, hc75, hc76, hc127, hc180, hc1135, hc1136, hc1137, hc1138, Nd.mostM, Nd.empty, Nd.top_at ht179, Bool.or_false, cond_true, cond_false, Bool.false_and, Bool.and_true]), h1196, ((hM1192).own (by rintro i b hi h1 h2 h3; (try dsimp only at h1); omega))⟩⟩, by first | omega | (dsimp only; omega)⟩
                        | true =>
                          refine WL.eql rfl rfl rfl rfl hc1137 ?_
                          have hp1137 := beq_iff_eq.1 hc1137
                          refine WL.move rfl rfl rfl ?_
                          refine WL.move rfl rfl rfl ?_
                          cases hc1188 : (((x61.2.2.tmod 4) : Int) == 1) with
                          | false =>
                            refine WL.eql rfl rfl rfl rfl hc1188 ?_
                            have hp1188 := beq_eq_false_iff_ne.1 hc1188
                            refine WL.pick_t rfl rfl rfl rfl ?_
                            refine WL.pick_f rfl rfl rfl rfl ?_
                            refine WL.done' ?_ (fun _ _ h => h)
                            refine WC.cond_f rfl ?_
                            refine WC.skip'' ?_ (fun _ _ h => h)
                            refine WC.seqk ?_
                            refine WC.region ?_
                            refine WL.move rfl rfl rfl ?_
                            refine WL.move rfl rfl rfl ?_
                            refine WL.max3 (v := Nd.max3 (x61.2.1.tmod 3) (x61.2.2.tmod 4) 1) rfl rfl rfl rfl rfl rfl ?_
                            refine WL.assign rfl rfl rfl ?_
                            refine WL.done' ?_ (fun _ _ h => h)
                            refine WC.seqk ?_
                            refine WC.region ?_
                            refine WL.move rfl rfl rfl ?_
                            refine WL.move rfl rfl rfl ?_
                            refine WL.mul (v := u * (Nd.max3 (x61.2.1.tmod 3) (x61.2.2.tmod 4) 1)) rfl rfl rfl rfl (IntWalk.i64_in _ (by have h1 := Nd.mod_bd (x := x61.2.1) (n := 3) (by omega) (by decide); have h2 := Nd.mod_bd (x := x61.2.2) (n := 4) (by omega) (by decide); have := Nd.mul_bd hb3 hb4 (Nd.max3_bd (a := x61.2.1.tmod 3) (b := x61.2.2.tmod 4) (by omega) (by omega)); omega)) ?_
                            cases hc1189 : decide (((u * (Nd.max3 (x61.2.1.tmod 3) (x61.2.2.tmod 4) 1)) : Int) ≤ 16) with
                            | false =>
                              refine WL.leq rfl rfl rfl rfl hc1189 ?_
                              have hp1189 := of_decide_eq_false hc1189
                              refine WL.done' ?_ (fun _ _ h => h)
                              refine WC.cond_f rfl ?_
                              refine WC.skip'' ?_ (fun _ _ h => h)
                              refine WC.region ?_
                              refine WL.add (v := (k : Int) + 1) rfl rfl rfl rfl (IntWalk.i64_in _ (by omega)) ?_
                              refine WL.move rfl rfl rfl ?_
                              refine WL.nil (fun a_ ha => ?_)
                              exact ⟨(k + 1, .slice (some ⟨eb179, 0, none⟩) pile.length capp, ⟨pile, u, gr⟩), _, ha.weaken (subReg_cons rfl (subReg_cons rfl (subReg_cons rfl (subReg_cons rfl (subReg_cons rfl (subReg_cons rfl (subReg_cons rfl (subReg_nil _)))))))), ⟨rfl, ((hB69.onto (hE7.trans hE66) (by omega)).trans hE1132), ⟨by first | omega | (dsimp only; omega), by omega, (by rw [Nd.madeSt_succ hx61, ← hst]; simp only [Nd.stepM, hc71, hc72, hc73, hc74, hc75, hc76, hc127, hc180, hc1135, hc1136, hc1137, hc1188, hc1189, Nd.mostM, Nd.empty, Nd.top_at ht179, Bool.or_false, cond_true, cond_false, Bool.false_and, Bool.and_true, Bool.and_false]), (h232.ext hE1132), ((h231.ext hE1132).dom (by intro k h1 _ _; (try dsimp only at h1); (repeat' first | (guard_hyp h1 : _ ∨ _; refine Or.elim h1 (fun h1 => ?_) (fun h1 => ?_)) | (guard_hyp h1 : _ ∧ _; have hx := h1.2; replace h1 := h1.1)) <;> first | contradiction | omega | (dsimp only; omega)))⟩⟩, by first | omega | (dsimp only; omega)⟩
                            | true =>
                              refine WL.leq rfl rfl rfl rfl hc1189 ?_
                              have hp1189 := of_decide_eq_true hc1189
                              refine WL.done' ?_ (fun _ _ h => h)
                              refine WC.cond_t rfl ?_
                              refine WC.seqk ?_
                              refine WC.region ?_
                              refine WL.move rfl rfl rfl ?_
                              refine WL.move rfl rfl rfl ?_
                              refine WL.mul (v := u * (Nd.max3 (x61.2.1.tmod 3) (x61.2.2.tmod 4) 1)) rfl rfl rfl rfl (IntWalk.i64_in _ (by have h1 := Nd.mod_bd (x := x61.2.1) (n := 3) (by omega) (by decide); have h2 := Nd.mod_bd (x := x61.2.2) (n := 4) (by omega) (by decide); have := Nd.mul_bd hb3 hb4 (Nd.max3_bd (a := x61.2.1.tmod 3) (b := x61.2.2.tmod 4) (by omega) (by omega)); omega)) ?_
                              refine WL.assign rfl rfl rfl ?_
                              refine WL.done' ?_ (fun _ _ h => h)
                              refine WC.region ?_
                              refine WL.move rfl rfl rfl ?_
                              refine WL.move rfl rfl rfl ?_
                              refine WL.sub (v := ((pile.length - 1 : Nat) : Int)) rfl rfl rfl rfl (by rw [IntWalk.i64_in _ (by omega)]; omega) ?_
                              refine WL.move rfl rfl rfl ?_
                              refine WL.move rfl rfl rfl ?_
                              refine WL.sub (v := ((pile.length - 1 : Nat) : Int)) rfl rfl rfl rfl (by rw [IntWalk.i64_in _ (by omega)]; omega) ?_
                              refine WL.indexAddr (i := (pile.length - 1)) rfl rfl Ty.slice27 rfl rfl rfl (by omega) ?_
                              refine WL.load_agg (l := tcells t179 (.slice a179 t179.subs.length cap179)) rfl rfl Ty.agg29 rfl (her179.ext hE1132) ?_
                              refine WL.move rfl rfl rfl ?_
                              refine WL.move rfl rfl rfl ?_
                              refine WL.call rfl rfl rfl Ty.ent23 (rep_ok _ _ _ t179 (x61.2.1.tmod 3) (x61.2.2.tmod 4) (hn179.ext hE1132)) ?_
                              rintro _ w1242 ⟨l1240, rfl, hr1240, hE1241⟩
                              have hzhE1241 := hE1241.size
                              refine ⟨_, rfl, ?_⟩
                              have hn1240 := hr1240.lt
                              obtain ⟨sl1240, rfl, hts1240⟩ := hn1240.opn
                              obtain ⟨a1240, cap1240, rfl, hlen1240, -⟩ := hts1240.get
                              refine WL.indexAddr (i := (pile.length - 1)) rfl rfl Ty.slice27 rfl rfl rfl (by omega) ?_
                              have h1245 := ((h178.ext hE1132).ext hE1241)
                              refine WL.storeV (i := (pile.length - 1)) (T := (Nd.mk 5 Nd.zero (x61.2.1.tmod 3) (x61.2.2.tmod 4) [t179])) rfl Ty.agg29 rfl rfl h1245 (by omega) hn1240 (by first | (rintro k ⟨h1, h2⟩ h3; first | omega | (dsimp only at h1; omega))) (fun w1246 hB1244 hM1243 => ?_)
                              have hzhB1244 := hB1244.size
                              refine WL.done' ?_ (fun _ _ h => h)
                              refine WC.region ?_
                              refine WL.add (v := (k : Int) + 1) rfl rfl rfl rfl (IntWalk.i64_in _ (by omega)) ?_
                              refine WL.move rfl rfl rfl ?_
                              refine WL.nil (fun a_ ha => ?_)
                              have h1247 := (hB1244.row ((h232.ext hE1132).ext hE1241) (by omega))
                              exact ⟨(k + 1, .slice (some ⟨eb179, 0, none⟩) pile.length capp, ⟨(pile.set (pile.length - 1) (Nd.mk 5 Nd.zero (x61.2.1.tmod 3) (x61.2.2.tmod 4) [t179])), u * (Nd.max3 (x61.2.1.tmod 3) (x61.2.2.tmod 4) 1), gr⟩), _, ha.weaken (subReg_cons rfl (subReg_cons rfl (subReg_cons rfl (subReg_cons rfl (subReg_cons rfl (subReg_cons rfl (subReg_cons rfl (subReg_nil _)))))))), ⟨rfl, (hB1244.onto (((hB69.onto (hE7.trans hE66) (by omega)).trans hE1132).trans hE1241) (by omega)), ⟨by first | omega | (dsimp only; omega), by omega, (by rw [Nd.madeSt_succ hx61, ← hst]; simp only [Nd.stepM, hc71, hc72, hc73, hc74, hc75, hc76, hc127, hc180, hc1135, hc1136, hc1137, hc1188, hc1189, Nd.mostM, Nd.empty, Nd.top_at ht179, Bool.or_false, cond_true, cond_false, Bool.false_and, Bool.and_true, Bool.and_false]), h1247, ((hM1243).own (by rintro i b hi h1 h2 h3; (try dsimp only at h1); omega))⟩⟩, by first | omega | (dsimp only; omega)⟩
                          | true =>
                            refine WL.eql rfl rfl rfl rfl hc1188 ?_
                            have hp1188 := beq_iff_eq.1 hc1188
                            refine WL.pick_t rfl rfl rfl rfl ?_
                            refine WL.pick_f rfl rfl rfl rfl ?_
                            refine WL.done' ?_ (fun _ _ h => h)
                            refine WC.cond_t rfl ?_
                            refine WC.region ?_
                            refine WL.assign rfl rfl rfl ?_
                            refine WL.done' ?_ (fun _ _ h => h)
                            refine WC.seqk ?_
                            refine WC.region ?_
                            refine WL.move rfl rfl rfl ?_
                            refine WL.move rfl rfl rfl ?_
                            refine WL.max3 (v := Nd.max3 (x61.2.1.tmod 3) (-1) 1) rfl rfl rfl rfl rfl rfl ?_
                            refine WL.assign rfl rfl rfl ?_
                            refine WL.done' ?_ (fun _ _ h => h)
                            refine WC.seqk ?_
                            refine WC.region ?_
                            refine WL.move rfl rfl rfl ?_
                            refine WL.move rfl rfl rfl ?_
                            refine WL.mul (v := u * (Nd.max3 (x61.2.1.tmod 3) (-1) 1)) rfl rfl rfl rfl (IntWalk.i64_in _ (by have h1 := Nd.mod_bd (x := x61.2.1) (n := 3) (by omega) (by decide); have h2 := Nd.mod_bd (x := x61.2.2) (n := 4) (by omega) (by decide); have := Nd.mul_bd hb3 hb4 (Nd.max3_bd (a := x61.2.1.tmod 3) (b := -1) (by omega) (by omega)); omega)) ?_
                            cases hc1239 : decide (((u * (Nd.max3 (x61.2.1.tmod 3) (-1) 1)) : Int) ≤ 16) with
                            | false =>
                              refine WL.leq rfl rfl rfl rfl hc1239 ?_
                              have hp1239 := of_decide_eq_false hc1239
                              refine WL.done' ?_ (fun _ _ h => h)
                              refine WC.cond_f rfl ?_
                              refine WC.skip'' ?_ (fun _ _ h => h)
                              refine WC.region ?_
                              refine WL.add (v := (k : Int) + 1) rfl rfl rfl rfl (IntWalk.i64_in _ (by omega)) ?_
                              refine WL.move rfl rfl rfl ?_
                              refine WL.nil (fun a_ ha => ?_)
                              exact ⟨(k + 1, .slice (some ⟨eb179, 0, none⟩) pile.length capp, ⟨pile, u, gr⟩), _, ha.weaken (subReg_cons rfl (subReg_cons rfl (subReg_cons rfl (subReg_cons rfl (subReg_cons rfl (subReg_cons rfl (subReg_cons rfl (subReg_nil _)))))))), ⟨rfl, ((hB69.onto (hE7.trans hE66) (by omega)).trans hE1132), ⟨by first | omega | (dsimp only; omega), by omega, (by rw [Nd.madeSt_succ hx61, ← hst]; simp only [Nd.stepM, hc71, hc72, hc73, hc74, hc75, hc76, hc127, hc180, hc1135, hc1136, hc1137, hc1188, hc1239, Nd.mostM, Nd.empty, Nd.top_at ht179, Bool.or_true, Bool.or_false, cond_true, cond_false, Bool.false_and, Bool.and_true]), (h232.ext hE1132), ((h231.ext hE1132).dom (by intro k h1 _ _; (try dsimp only at h1); (repeat' first | (guard_hyp h1 : _ ∨ _; refine Or.elim h1 (fun h1 => ?_) (fun h1 => ?_)) | (guard_hyp h1 : _ ∧ _; have hx := h1.2; replace h1 := h1.1)) <;> first | contradiction | omega | (dsimp only; omega)))⟩⟩, by first | omega | (dsimp only; omega)⟩
                            | true =>
                              refine WL.leq rfl rfl rfl rfl hc1239 ?_
                              have hp1239 := of_decide_eq_true hc1239
                              refine WL.done' ?_ (fun _ _ h => h)
                              refine WC.cond_t rfl ?_
                              refine WC.seqk ?_
                              refine WC.region ?_
                              refine WL.move rfl rfl rfl ?_
                              refine WL.move rfl rfl rfl ?_
                              refine WL.mul (v := u * (Nd.max3 (x61.2.1.tmod 3) (-1) 1)) rfl rfl rfl rfl (IntWalk.i64_in _ (by have h1 := Nd.mod_bd (x := x61.2.1) (n := 3) (by omega) (by decide); have h2 := Nd.mod_bd (x := x61.2.2) (n := 4) (by omega) (by decide); have := Nd.mul_bd hb3 hb4 (Nd.max3_bd (a := x61.2.1.tmod 3) (b := -1) (by omega) (by omega)); omega)) ?_
                              refine WL.assign rfl rfl rfl ?_
                              refine WL.done' ?_ (fun _ _ h => h)
                              refine WC.region ?_
                              refine WL.move rfl rfl rfl ?_
                              refine WL.move rfl rfl rfl ?_
                              refine WL.sub (v := ((pile.length - 1 : Nat) : Int)) rfl rfl rfl rfl (by rw [IntWalk.i64_in _ (by omega)]; omega) ?_
                              refine WL.move rfl rfl rfl ?_
                              refine WL.move rfl rfl rfl ?_
                              refine WL.sub (v := ((pile.length - 1 : Nat) : Int)) rfl rfl rfl rfl (by rw [IntWalk.i64_in _ (by omega)]; omega) ?_
                              refine WL.indexAddr (i := (pile.length - 1)) rfl rfl Ty.slice27 rfl rfl rfl (by omega) ?_
                              refine WL.load_agg (l := tcells t179 (.slice a179 t179.subs.length cap179)) rfl rfl Ty.agg29 rfl (her179.ext hE1132) ?_
                              refine WL.move rfl rfl rfl ?_
                              refine WL.move rfl rfl rfl ?_
                              refine WL.call rfl rfl rfl Ty.ent23 (rep_ok _ _ _ t179 (x61.2.1.tmod 3) (-1) (hn179.ext hE1132)) ?_
                              rintro _ w1292 ⟨l1290, rfl, hr1290, hE1291⟩
                              have hzhE1291 := hE1291.size
                              refine ⟨_, rfl, ?_⟩
                              have hn1290 := hr1290.lt
                              obtain ⟨sl1290, rfl, hts1290⟩ := hn1290.opn
                              obtain ⟨a1290, cap1290, rfl, hlen1290, -⟩ := hts1290.get
                              refine WL.indexAddr (i := (pile.length - 1)) rfl rfl Ty.slice27 rfl rfl rfl (by omega) ?_
                              have h1295 := ((h178.ext hE1132).ext hE1291)
                              refine WL.storeV (i := (pile.length - 1)) (T := (Nd.mk 5 Nd.zero (x61.2.1.tmod 3) (-1) [t179])) rfl Ty.agg29 rfl rfl h1295 (by omega) hn1290 (by first | (rintro k ⟨h1, h2⟩ h3; first | omega | (dsimp only at h1; omega))) (fun w1296 hB1294 hM1293 => ?_)
                              have hzhB1294 := hB1294.size
                              refine WL.done' ?_ (fun _ _ h => h)
                              refine WC.region ?_
                              refine WL.add (v := (k : Int) + 1) rfl rfl rfl rfl (IntWalk.i64_in _ (by omega)) ?_
                              refine WL.move rfl rfl rfl ?_
                              refine WL.nil (fun a_ ha => ?_)
                              have h1297 := (hB1294.row ((h232.ext hE1132).ext hE1291) (by omega))
                              exact ⟨(k + 1, .slice (some ⟨eb179, 0, none⟩) pile.length capp, ⟨(pile.set (pile.length - 1) (Nd.mk 5 Nd.zero (x61.2.1.tmod 3) (-1) [t179])), u * (Nd.max3 (x61.2.1.tmod 3) (-1) 1), gr⟩), _, ha.weaken (subReg_cons rfl (subReg_cons rfl (subReg_cons rfl (subReg_cons rfl (subReg_cons rfl (subReg_cons rfl (subReg_cons rfl (subReg_nil _)))))))), ⟨rfl, (hB1294.onto (((hB69.onto (hE7.trans hE66) (by omega)).trans hE1132).trans hE1291) (by omega)), ⟨by first | omega | (dsimp only; omega), by omega, (by rw [Nd.madeSt_succ hx61, ← hst]; simp only [Nd.stepM, hc71, hc72, hc73, hc74, hc75, hc76, hc127, hc180, hc1135, hc1136, hc1137, hc1188, hc1239, Nd.mostM, Nd.empty, Nd.top_at ht179, Bool.or_true, Bool.or_false, cond_true, cond_false, Bool.false_and, Bool.and_true]), h1297, ((hM1293).own (by rintro i b hi h1 h2 h3; (try dsimp only at h1); omega))⟩⟩, by first | omega | (dsimp only; omega)⟩
                      | true =>
                        refine WL.eql rfl rfl rfl rfl hc1136 ?_
                        have hp1136 := beq_iff_eq.1 hc1136
                        refine WL.pick_f rfl rfl rfl rfl ?_
                        refine WL.move rfl rfl rfl ?_
                        refine WL.pass rfl rfl ?_
                        refine WL.pass rfl rfl ?_
                        refine WL.pass rfl rfl ?_
                        refine WL.pass rfl rfl ?_
                        refine WL.pass rfl rfl ?_
                        refine WL.pass rfl rfl ?_
                        refine WL.pick_t rfl rfl rfl rfl ?_
                        refine WL.done' ?_ (fun _ _ h => h)
                        refine WC.cond_t rfl ?_
                        refine WC.region ?_
                        refine WL.assign rfl rfl rfl ?_
                        refine WL.done' ?_ (fun _ _ h => h)
                        refine WC.seqk ?_
                        refine WC.region ?_
                        refine WL.move rfl rfl rfl ?_
                        refine WL.move rfl rfl rfl ?_
                        refine WL.max3 (v := Nd.max3 (x61.2.1.tmod 3) (-1) 1) rfl rfl rfl rfl rfl rfl ?_
                        refine WL.assign rfl rfl rfl ?_
                        refine WL.done' ?_ (fun _ _ h => h)
                        refine WC.seqk ?_
                        refine WC.region ?_
                        refine WL.move rfl rfl rfl ?_
                        refine WL.move rfl rfl rfl ?_
                        refine WL.mul (v := u * (Nd.max3 (x61.2.1.tmod 3) (-1) 1)) rfl rfl rfl rfl (IntWalk.i64_in _ (by have h1 := Nd.mod_bd (x := x61.2.1) (n := 3) (by omega) (by decide); have h2 := Nd.mod_bd (x := x61.2.2) (n := 4) (by omega) (by decide); have := Nd.mul_bd hb3 hb4 (Nd.max3_bd (a := x61.2.1.tmod 3) (b := -1) (by omega) (by omega)); omega)) ?_
                        cases hc1187 : decide (((u * (Nd.max3 (x61.2.1.tmod 3) (-1) 1)) : Int) ≤ 16) with
                        | false =>
                          refine WL.leq rfl rfl rfl rfl hc1187 ?_
                          have hp1187 := of_decide_eq_false hc1187
                          refine WL.done' ?_ (fun _ _ h => h)
                          refine WC.cond_f rfl ?_
                          refine WC.skip'' ?_ (fun _ _ h => h)
                          refine WC.region ?_
                          refine WL.add (v := (k : Int) + 1) rfl rfl rfl rfl (IntWalk.i64_in _ (by omega)) ?_
                          refine WL.move rfl rfl rfl ?_
                          refine WL.nil (fun a_ ha => ?_)
                          exact ⟨(k + 1, .slice (some ⟨eb179, 0, none⟩) pile.length capp, ⟨pile, u, gr⟩), _, ha.weaken (subReg_cons rfl (subReg_cons rfl (subReg_cons rfl (subReg_cons rfl (subReg_cons rfl (subReg_cons rfl (subReg_cons rfl (subReg_nil _)))))))), ⟨rfl, ((hB69.onto (hE7.trans hE66) (by omega)).trans hE1132), ⟨by first | omega | (dsimp only; omega), by omega, (by rw [Nd.madeSt_succ hx61, ← hst]; simp only [Nd.stepM, hc71, hc72, hc73, hc74, hc75, hc76, hc127, hc180, hc1135, hc1136, hc1187, Nd.mostM, Nd.empty, Nd.top_at ht179, Bool.or_true, Bool.true_or, cond_true, cond_false, Bool.false_and, Bool.and_true]), (h232.ext hE1132), ((h231.ext hE1132).dom (by intro k h1 _ _; (try dsimp only at h1); (repeat' first | (guard_hyp h1 : _ ∨ _; refine Or.elim h1 (fun h1 => ?_) (fun h1 => ?_)) | (guard_hyp h1 : _ ∧ _; have hx := h1.2; replace h1 := h1.1)) <;> first | contradiction | omega | (dsimp only; omega)))⟩⟩, by first | omega | (dsimp only; omega)⟩
                        | true =>
                          refine WL.leq rfl rfl rfl rfl hc1187 ?_
                          have hp1187 := of_decide_eq_true hc1187
                          refine WL.done' ?_ (fun _ _ h => h)
                          refine WC.cond_t rfl ?_
                          refine WC.seqk ?_
                          refine WC.region ?_
                          refine WL.move rfl rfl rfl ?_
                          refine WL.move rfl rfl rfl ?_
                          refine WL.mul (v := u * (Nd.max3 (x61.2.1.tmod 3) (-1) 1)) rfl rfl rfl rfl (IntWalk.i64_in _ (by have h1 := Nd.mod_bd (x := x61.2.1) (n := 3) (by omega) (by decide); have h2 := Nd.mod_bd (x := x61.2.2) (n := 4) (by omega) (by decide); have := Nd.mul_bd hb3 hb4 (Nd.max3_bd (a := x61.2.1.tmod 3) (b := -1) (by omega) (by omega)); omega)) ?_
                          refine WL.assign rfl rfl rfl ?_
                          refine WL.done' ?_ (fun _ _ h => h)
                          refine WC.region ?_
                          refine WL.move rfl rfl rfl ?_
                          refine WL.move rfl rfl rfl ?_
                          refine WL.sub (v := ((pile.length - 1 : Nat) : Int)) rfl rfl rfl rfl (by rw [IntWalk.i64_in _ (by omega)]; omega) ?_
                          refine WL.move rfl rfl rfl ?_
                          refine WL.move rfl rfl rfl ?_
                          refine WL.sub (v := ((pile.length - 1 : Nat) : Int)) rfl rfl rfl rfl (by rw [IntWalk.i64_in _ (by omega)]; omega) ?_
                          refine WL.indexAddr (i := (pile.length - 1)) rfl rfl Ty.slice27 rfl rfl rfl (by omega) ?_
                          refine WL.load_agg (l := tcells t179 (.slice a179 t179.subs.length cap179)) rfl rfl Ty.agg29 rfl (her179.ext hE1132) ?_
                          refine WL.move rfl rfl rfl ?_
                          refine WL.move rfl rfl rfl ?_
                          refine WL.call rfl rfl rfl Ty.ent23 (rep_ok _ _ _ t179 (x61.2.1.tmod 3) (-1) (hn179.ext hE1132)) ?_
                          rintro _ w1240 ⟨l1238, rfl, hr1238, hE1239⟩
                          have hzhE1239 := hE1239.size
                          refine ⟨_, rfl, ?_⟩
                          have hn1238 := hr1238.lt
                          obtain ⟨sl1238, rfl, hts1238⟩ := hn1238.opn
                          obtain ⟨a1238, cap1238, rfl, hlen1238, -⟩ := hts1238.get
                          refine WL.indexAddr (i := (pile.length - 1)) rfl rfl Ty.slice27 rfl rfl rfl (by omega) ?_
                          have h1243 := ((h178.ext hE1132).ext hE1239)
                          refine WL.storeV (i := (pile.length - 1)) (T := (Nd.mk 5 Nd.zero (x61.2.1.tmod 3) (-1) [t179])) rfl Ty.agg29 rfl rfl h1243 (by omega) hn1238 (by first | (rintro k ⟨h1, h2⟩ h3; first | omega | (dsimp only at h1; omega))) (fun w1244 hB1242 hM1241 => ?_)
                          have hzhB1242 := hB1242.size
                          refine WL.done' ?_ (fun _ _ h => h)
                          refine WC.region ?_
                          refine WL.add (v := (k : Int) + 1) rfl rfl rfl rfl (IntWalk.i64_in _ (by omega)) ?_
                          refine WL.move rfl rfl rfl ?_
                          refine WL.nil (fun a_ ha => ?_)
                          have h1245 := (hB1242.row ((h232.ext hE1132).ext hE1239) (by omega))
                          exact ⟨(k + 1, .slice (some ⟨eb179, 0, none⟩) pile.length capp, ⟨(pile.set (pile.length - 1) (Nd.mk 5 Nd.zero (x61.2.1.tmod 3) (-1) [t179])), u * (Nd.max3 (x61.2.1.tmod 3) (-1) 1), gr⟩), _, ha.weaken (subReg_cons rfl (subReg_cons rfl (subReg_cons rfl (subReg_cons rfl (subReg_cons rfl (subReg_cons rfl (subReg_cons rfl (subReg_nil _)))))))), ⟨rfl, (hB1242.onto (((hB69.onto (hE7.trans hE66) (by omega)).trans hE1132).trans hE1239) (by omega)), ⟨by first | omega | (dsimp only; omega), by omega, (by rw [Nd.madeSt_succ hx61, ← hst]; simp only [Nd.stepM, hc71, hc72, hc73, hc74, hc75, hc76, hc127, hc180, hc1135, hc1136, hc1187, Nd.mostM, Nd.empty, Nd.top_at ht179, Bool.or_true, Bool.true_or, cond_true, cond_false, Bool.false_and, Bool.and_true]), h1245, ((hM1241).own (by rintro i b hi h1 h2 h3; (try dsimp only at h1); omega))⟩⟩, by first | omega | (dsimp only; omega)⟩
                    | true =>
                      refine WL.lss rfl rfl rfl rfl hc1135 ?_
                      have hp1135 := of_decide_eq_true hc1135
                      refine WL.move rfl rfl rfl ?_
                      refine WL.pass rfl rfl ?_
                      refine WL.pass rfl rfl ?_
                      refine WL.pick_t rfl rfl rfl rfl ?_
                      refine WL.move rfl rfl rfl ?_
                      refine WL.pass rfl rfl ?_
                      refine WL.pass rfl rfl ?_
                      refine WL.pass rfl rfl ?_
                      refine WL.pass rfl rfl ?_
                      refine WL.pass rfl rfl ?_
                      refine WL.pass rfl rfl ?_
                      refine WL.pick_t rfl rfl rfl rfl ?_
                      refine WL.done' ?_ (fun _ _ h => h)
                      refine WC.cond_t rfl ?_
                      refine WC.region ?_
                      refine WL.assign rfl rfl rfl ?_
                      refine WL.done' ?_ (fun _ _ h => h)
                      refine WC.seqk ?_
                      refine WC.region ?_
                      refine WL.move rfl rfl rfl ?_
                      refine WL.move rfl rfl rfl ?_
                      refine WL.max3 (v := Nd.max3 (x61.2.1.tmod 3) (-1) 1) rfl rfl rfl rfl rfl rfl ?_
                      refine WL.assign rfl rfl rfl ?_
                      refine WL.done' ?_ (fun _ _ h => h)
                      refine WC.seqk ?_
                      refine WC.region ?_
                      refine WL.move rfl rfl rfl ?_
                      refine WL.move rfl rfl rfl ?_
                      refine WL.mul (v := u * (Nd.max3 (x61.2.1.tmod 3) (-1) 1)) rfl rfl rfl rfl (IntWalk.i64_in _ (by have h1 := Nd.mod_bd (x := x61.2.1) (n := 3) (by omega) (by decide); have h2 := Nd.mod_bd (x := x61.2.2) (n := 4) (by omega) (by decide); have := Nd.mul_bd hb3 hb4 (Nd.max3_bd (a := x61.2.1.tmod 3) (b := -1) (by omega) (by omega)); omega)) ?_
                      cases hc1186 : decide (((u * (Nd.max3 (x61.2.1.tmod 3) (-1) 1)) : Int) ≤ 16) with
                      | false =>
                        refine WL.leq rfl rfl rfl rfl hc1186 ?_
                        have hp1186 := of_decide_eq_false hc1186
                        refine WL.done' ?_ (fun _ _ h => h)
                        refine WC.cond_f rfl ?_
                        refine WC.skip'' ?_ (fun _ _ h => h)
                        refine WC.region ?_
                        refine WL.add (v := (k : Int) + 1) rfl rfl rfl rfl (IntWalk.i64_in _ (by omega)) ?_
                        refine WL.move rfl rfl rfl ?_
                        refine WL.nil (fun a_ ha => ?_)
                        exact ⟨(k + 1, .slice (some ⟨eb179, 0, none⟩) pile.length capp, ⟨pile, u, gr⟩), _, ha.weaken (subReg_cons rfl (subReg_cons rfl (subReg_cons rfl (subReg_cons rfl (subReg_cons rfl (subReg_cons rfl (subReg_cons rfl (subReg_nil _)))))))), ⟨rfl, ((hB69.onto (hE7.trans hE66) (by omega)).trans hE1132), ⟨by first | omega | (dsimp only; omega), by omega, (by rw [Nd.madeSt_succ hx61, ← hst]; simp only [Nd.stepM, hc71, hc72, hc73, hc74, hc75, hc76, hc127, hc180, hc1135, hc1186, Nd.mostM, Nd.empty, Nd.top_at ht179, Bool.true_or, cond_true, cond_false, Bool.false_and, Bool.and_true]), (h232.ext hE1132), ((h231.ext hE1132).dom (by intro k h1 _ _; (try dsimp only at h1); (repeat' first | (guard_hyp h1 : _ ∨ _; refine Or.elim h1 (fun h1 => ?_) (fun h1 => ?_)) | (guard_hyp h1 : _ ∧ _; have hx := h1.2; replace h1 := h1.1)) <;> first | contradiction | omega | (dsimp only; omega)))⟩⟩, by first | omega | (dsimp only; omega)⟩
                      | true =>
                        refine WL.leq rfl rfl rfl rfl hc1186 ?_
                        have hp1186 := of_decide_eq_true hc1186
                        refine WL.done' ?_ (fun _ _ h => h)
                        refine WC.cond_t rfl ?_
                        refine WC.seqk ?_
                        refine WC.region ?_
                        refine WL.move rfl rfl rfl ?_
                        refine WL.move rfl rfl rfl ?_
                        refine WL.mul (v := u * (Nd.max3 (x61.2.1.tmod 3) (-1) 1)) rfl rfl rfl rfl (IntWalk.i64_in _ (by have h1 := Nd.mod_bd (x := x61.2.1) (n := 3) (by omega) (by decide); have h2 := Nd.mod_bd (x := x61.2.2) (n := 4) (by omega) (by decide); have := Nd.mul_bd hb3 hb4 (Nd.max3_bd (a := x61.2.1.tmod 3) (b := -1) (by omega) (by omega)); omega)) ?_
                        refine WL.assign rfl rfl rfl ?_
                        refine WL.done' ?_ (fun _ _ h => h)
                        refine WC.region ?_
                        refine WL.move rfl rfl rfl ?_
                        refine WL.move rfl rfl rfl ?_
                        refine WL.sub (v := ((pile.length - 1 : Nat) : Int)) rfl rfl rfl rfl (by rw [IntWalk.i64_in _ (by omega)]; omega) ?_
                        refine WL.move rfl rfl rfl ?_
                        refine WL.move rfl rfl rfl ?_
                        refine WL.sub (v := ((pile.length - 1 : Nat) : Int)) rfl rfl rfl rfl (by rw [IntWalk.i64_in _ (by omega)]; omega) ?_
                        refine WL.indexAddr (i := (pile.length - 1)) rfl rfl Ty.slice27 rfl rfl rfl (by omega) ?_
                        refine WL.load_agg (l := tcells t179 (.slice a179 t179.subs.length cap179)) rfl rfl Ty.agg29 rfl (her179.ext hE1132) ?_
                        refine WL.move rfl rfl rfl ?_
                        refine WL.move rfl rfl rfl ?_
                        refine WL.call rfl rfl rfl Ty.ent23 (rep_ok _ _ _ t179 (x61.2.1.tmod 3) (-1) (hn179.ext hE1132)) ?_
                        rintro _ w1239 ⟨l1237, rfl, hr1237, hE1238⟩
                        have hzhE1238 := hE1238.size
                        refine ⟨_, rfl, ?_⟩
                        have hn1237 := hr1237.lt
                        obtain ⟨sl1237, rfl, hts1237⟩ := hn1237.opn
                        obtain ⟨a1237, cap1237, rfl, hlen1237, -⟩ := hts1237.get
                        refine WL.indexAddr (i := (pile.length - 1)) rfl rfl Ty.slice27 rfl rfl rfl (by omega) ?_
                        have h1242 := ((h178.ext hE1132).ext hE1238)
                        refine WL.storeV (i := (pile.length - 1)) (T := (Nd.mk 5 Nd.zero (x61.2.1.tmod 3) (-1) [t179])) rfl Ty.agg29 rfl rfl h1242 (by omega) hn1237 (by first | (rintro k ⟨h1, h2⟩ h3; first | omega | (dsimp only at h1; omega))) (fun w1243 hB1241 hM1240 => ?_)
                        have hzhB1241 := hB1241.size
                        refine WL.done' ?_ (fun _ _ h => h)
                        refine WC.region ?_
                        refine WL.add (v := (k : Int) + 1) rfl rfl rfl rfl (IntWalk.i64_in _ (by omega)) ?_
                        refine WL.move rfl rfl rfl ?_
                        refine WL.nil (fun a_ ha => ?_)
                        have h1244 := (hB1241.row ((h232.ext hE1132).ext hE1238) (by omega))
                        exact ⟨(k + 1, .slice (some ⟨eb179, 0, none⟩) pile.length capp, ⟨(pile.set (pile.length - 1) (Nd.mk 5 Nd.zero (x61.2.1.tmod 3) (-1) [t179])), u * (Nd.max3 (x61.2.1.tmod 3) (-1) 1), gr⟩), _, ha.weaken (subReg_cons rfl (subReg_cons rfl (subReg_cons rfl (subReg_cons rfl (subReg_cons rfl (subReg_cons rfl (subReg_cons rfl (subReg_nil _)))))))), ⟨rfl, (hB1241.onto (((hB69.onto (hE7.trans hE66) (by omega)).trans hE1132).trans hE1238) (by omega)), ⟨by first | omega | (dsimp only; omega), by omega, (by rw [Nd.madeSt_succ hx61, ← hst]; simp only [Nd.stepM, hc71, hc72, hc73, hc74, hc75, hc76, hc127, hc180, hc1135, hc1186, Nd.mostM, Nd.empty, Nd.top_at ht179, Bool.true_or, cond_true, cond_false, Bool.false_and, Bool.and_true]), h1244, ((hM1240).own (by rintro i b hi h1 h2 h3; (try dsimp only at h1); omega))⟩⟩, by first | omega | (dsimp only; omega)⟩
            | true =>
              refine WL.eql rfl rfl rfl rfl hc75 ?_
              have hp75 := beq_iff_eq.1 hc75
              refine WL.move rfl rfl rfl ?_
              refine WL.move rfl rfl rfl ?_
              cases hc126 : decide ((0 : Int) < pile.length) with
              | false =>
                refine WL.gtr rfl rfl rfl rfl hc126 ?_
                have hp126 := of_decide_eq_false hc126
                refine WL.pick_t rfl rfl rfl rfl ?_
                refine WL.move rfl rfl rfl ?_
                refine WL.pass rfl rfl ?_
                refine WL.pass rfl rfl ?_
                refine WL.pick_f rfl rfl rfl rfl ?_
                refine WL.assign rfl rfl rfl ?_
                refine WL.done' ?_ (fun _ _ h => h)
                refine WC.cond_f rfl ?_
                refine WC.seqk ?_
                refine WC.region ?_
                refine WL.move rfl rfl rfl ?_
                have hc127 : decide ((9 : Int) < (x61.1.tmod 12)) = false := decide_eq_false (by omega)
                refine WL.gtr rfl rfl rfl rfl hc127 ?_
                refine WL.move rfl rfl rfl ?_
                refine WL.pass rfl rfl ?_
                refine WL.pass rfl rfl ?_
                refine WL.pick_f rfl rfl rfl rfl ?_
                refine WL.move rfl rfl rfl ?_
                refine WL.pass rfl rfl ?_
                refine WL.pass rfl rfl ?_
                refine WL.pass rfl rfl ?_
                refine WL.pass rfl rfl ?_
                refine WL.pass rfl rfl ?_
                refine WL.pass rfl rfl ?_
                refine WL.pass rfl rfl ?_
                refine WL.pick_f rfl rfl rfl rfl ?_
                refine WL.assign rfl rfl rfl ?_
                refine WL.done' ?_ (fun _ _ h => h)
                refine WC.cond_f rfl ?_
                refine WC.skip'' ?_ (fun _ _ h => h)
                refine WC.region ?_
                refine WL.add (v := (k : Int) + 1) rfl rfl rfl rfl (IntWalk.i64_in _ (by omega)) ?_
                refine WL.move rfl rfl rfl ?_
                refine WL.nil (fun a_ ha => ?_)
                have h128 := ((hO.ext hE66).but hB69 (fun h1 => by first | omega | (dsimp only at h1; omega)) (fun hk => by have := (hO.ext hE66).own _ hk; have := hol _ hk; omega))
                have h129 := (hB69.row (hR2.ext hE66) (by omega))
                exact ⟨(k + 1, .slice ap pile.length capp, ⟨pile, u, gr⟩), _, ha.weaken (subReg_cons rfl (subReg_cons rfl (subReg_cons rfl (subReg_cons rfl (subReg_cons rfl (subReg_cons rfl (subReg_cons rfl (subReg_nil _)))))))), ⟨rfl, (hB69.onto (hE7.trans hE66) (by omega)), ⟨by first | omega | (dsimp only; omega), by omega, (by rw [Nd.madeSt_succ hx61, ← hst]; simp only [Nd.stepM, hc71, hc72, hc73, hc74, hc75, hc126, hc127, Nd.mostM, Nd.empty, cond_false, Bool.false_and, Bool.and_false]), h129, (h128.dom (by intro k h1 _ _; (try dsimp only at h1); (repeat' first | (guard_hyp h1 : _ ∨ _; refine Or.elim h1 (fun h1 => ?_) (fun h1 => ?_)) | (guard_hyp h1 : _ ∧ _; have hx := h1.2; replace h1 := h1.1)) <;> first | contradiction | omega | (dsimp only; omega)))⟩⟩, by first | omega | (dsimp only; omega)⟩
              | true =>
                refine WL.gtr rfl rfl rfl rfl hc126 ?_
                have hp126 := of_decide_eq_true hc126
                refine WL.pick_t rfl rfl rfl rfl ?_
                refine WL.move rfl rfl rfl ?_
                refine WL.move rfl rfl rfl ?_
                cases hc177 : decide ((gr : Int) < 9) with
                | false =>
                  refine WL.lss rfl rfl rfl rfl hc177 ?_
                  have hp177 := of_decide_eq_false hc177
                  refine WL.pick_t rfl rfl rfl rfl ?_
                  refine WL.assign rfl rfl rfl ?_
                  refine WL.done' ?_ (fun _ _ h => h)
                  refine WC.cond_f rfl ?_
                  refine WC.seqk ?_
                  refine WC.region ?_
                  refine WL.move rfl rfl rfl ?_
                  have hc178 : decide ((9 : Int) < (x61.1.tmod 12)) = false := decide_eq_false (by omega)
                  refine WL.gtr rfl rfl rfl rfl hc178 ?_
                  refine WL.move rfl rfl rfl ?_
                  refine WL.pass rfl rfl ?_
                  refine WL.pass rfl rfl ?_
                  refine WL.pick_f rfl rfl rfl rfl ?_
                  refine WL.move rfl rfl rfl ?_
                  refine WL.pass rfl rfl ?_
                  refine WL.pass rfl rfl ?_
                  refine WL.pass rfl rfl ?_
                  refine WL.pass rfl rfl ?_
                  refine WL.pass rfl rfl ?_
                  refine WL.pass rfl rfl ?_
                  refine WL.pass rfl rfl ?_
                  refine WL.pick_f rfl rfl rfl rfl ?_
                  refine WL.assign rfl rfl rfl ?_
                  refine WL.done' ?_ (fun _ _ h => h)
                  refine WC.cond_f rfl ?_
                  refine WC.skip'' ?_ (fun _ _ h => h)
                  refine WC.region ?_
                  refine WL.add (v := (k : Int) + 1) rfl rfl rfl rfl (IntWalk.i64_in _ (by omega)) ?_
                  refine WL.move rfl rfl rfl ?_
                  refine WL.nil (fun a_ ha => ?_)
                  have h179 := ((hO.ext hE66).but hB69 (fun h1 => by first | omega | (dsimp only at h1; omega)) (fun hk => by have := (hO.ext hE66).own _ hk; have := hol _ hk; omega))
                  have h180 := (hB69.row (hR2.ext hE66) (by omega))
                  exact ⟨(k + 1, .slice ap pile.length capp, ⟨pile, u, gr⟩), _, ha.weaken (subReg_cons rfl (subReg_cons rfl (subReg_cons rfl (subReg_cons rfl (subReg_cons rfl (subReg_cons rfl (subReg_cons rfl (subReg_nil _)))))))), ⟨rfl, (hB69.onto (hE7.trans hE66) (by omega)), ⟨by first | omega | (dsimp only; omega), by omega, (by rw [Nd.madeSt_succ hx61, ← hst]; simp only [Nd.stepM, hc71, hc72, hc73, hc74, hc75, hc126, hc177, hc178, Nd.mostM, Nd.empty, cond_false, Bool.false_and, Bool.and_true, Bool.and_false]), h180, (h179.dom (by intro k h1 _ _; (try dsimp only at h1); (repeat' first | (guard_hyp h1 : _ ∨ _; refine Or.elim h1 (fun h1 => ?_) (fun h1 => ?_)) | (guard_hyp h1 : _ ∧ _; have hx := h1.2; replace h1 := h1.1)) <;> first | contradiction | omega | (dsimp only; omega)))⟩⟩, by first | omega | (dsimp only; omega)⟩
                | true =>
                  refine WL.lss rfl rfl rfl rfl hc177 ?_
                  have hp177 := of_decide_eq_true hc177
                  refine WL.pick_t rfl rfl rfl rfl ?_
                  refine WL.assign rfl rfl rfl ?_
                  refine WL.done' ?_ (fun _ _ h => h)
                  refine WC.cond_t rfl ?_
                  refine WC.seqk ?_
                  refine WC.region ?_
                  refine WL.move rfl rfl rfl ?_
                  refine WL.move rfl rfl rfl ?_
                  refine WL.sub (v := ((pile.length - 1 : Nat) : Int)) rfl rfl rfl rfl (by rw [IntWalk.i64_in _ (by omega)]; omega) ?_
                  refine WL.move rfl rfl rfl ?_
                  refine WL.move rfl rfl rfl ?_
                  refine WL.sub (v := ((pile.length - 1 : Nat) : Int)) rfl rfl rfl rfl (by rw [IntWalk.i64_in _ (by omega)]; omega) ?_
                  have h228 := ((hM.ext hE66).but hB69 (by rintro i hi ⟨h1, h2⟩; first | omega | (dsimp only at h1; omega)) (fun hk => by have := (hM.ext hE66).block _ hk; have := hol _ hk; omega))
                  obtain ⟨t229, ht229⟩ : ∃ t, pile[(pile.length - 1)]? = some t := ⟨_, List.getElem?_eq_getElem (by omega)⟩
                  obtain ⟨eb229, el229, hea229, hgb229, hgl229, her229, hn229⟩ := h228.at ht229
                  obtain ⟨sl229, rfl, hts229⟩ := hn229.opn
                  obtain ⟨a229, cap229, rfl, hlen229, -⟩ := hts229.get
                  subst hea229
                  refine WL.indexAddr (i := (pile.length - 1)) rfl rfl Ty.slice27 rfl rfl rfl (by omega) ?_
                  refine WL.load_agg (l := tcells t229 (.slice a229 t229.subs.length cap229)) rfl rfl Ty.agg29 rfl her229 ?_
                  refine WL.call rfl rfl rfl Ty.ent24 (group_ok _ _ _ t229 hn229) ?_
                  rintro _ w232 ⟨l230, rfl, hr230, hE231⟩
                  have hzhE231 := hE231.size
                  refine ⟨_, rfl, ?_⟩
                  have hn230 := hr230.lt
                  obtain ⟨sl230, rfl, hts230⟩ := hn230.opn
                  obtain ⟨a230, cap230, rfl, hlen230, -⟩ := hts230.get
                  refine WL.indexAddr (i := (pile.length - 1)) rfl rfl Ty.slice27 rfl rfl rfl (by omega) ?_
                  refine WL.storeV (i := (pile.length - 1)) (T := (Nd.mk 6 Nd.zero 0 0 [t229])) rfl Ty.agg29 rfl rfl (h228.ext hE231) (by omega) hn230 (by first | (rintro k ⟨h1, h2⟩ h3; first | omega | (dsimp only at h1; omega))) (fun w235 hB234 hM233 => ?_)
                  have hzhB234 := hB234.size
                  refine WL.done' ?_ (fun _ _ h => h)
                  refine WC.region ?_
                  refine WL.move rfl rfl rfl ?_
                  refine WL.add (v := gr + 1) rfl rfl rfl rfl (IntWalk.i64_in _ (by omega)) ?_
                  refine WL.assign rfl rfl rfl ?_
                  refine WL.done' ?_ (fun _ _ h => h)
                  refine WC.region ?_
                  refine WL.add (v := (k : Int) + 1) rfl rfl rfl rfl (IntWalk.i64_in _ (by omega)) ?_
                  refine WL.move rfl rfl rfl ?_
                  refine WL.nil (fun a_ ha => ?_)
                  have h236 := (hB234.row ((hB69.row (hR2.ext hE66) (by omega)).ext hE231) (by omega))
                  exact ⟨(k + 1, .slice (some ⟨eb229, 0, none⟩) pile.length capp, ⟨(pile.set (pile.length - 1) (Nd.mk 6 Nd.zero 0 0 [t229])), u, gr + 1⟩), _, ha.weaken (subReg_cons rfl (subReg_cons rfl (subReg_cons rfl (subReg_cons rfl (subReg_cons rfl (subReg_cons rfl (subReg_cons rfl (subReg_nil _)))))))), ⟨rfl, (hB234.onto ((hB69.onto (hE7.trans hE66) (by omega)).trans hE231) (by omega)), ⟨by first | omega | (dsimp only; omega), by omega, (by rw [Nd.madeSt_succ hx61, ← hst]; simp only [Nd.stepM, hc71, hc72, hc73, hc74, hc75, hc126, hc177, Nd.mostM, Nd.empty, Nd.top_at ht229, cond_true, cond_false, Bool.false_and, Bool.and_true]), h236, ((hM233).own (by rintro i b hi h1 h2 h3; (try dsimp only at h1); omega))⟩⟩, by first | omega | (dsimp only; omega)⟩
          | true =>
            refine WL.lss rfl rfl rfl rfl hc74 ?_
            have hp74 := of_decide_eq_true hc74
            refine WL.move rfl rfl rfl ?_
            refine WL.move rfl rfl rfl ?_
            cases hc125 : decide ((1 : Int) < pile.length) with
            | false =>
              refine WL.gtr rfl rfl rfl rfl hc125 ?_
              have hp125 := of_decide_eq_false hc125
              refine WL.pick_t rfl rfl rfl rfl ?_
              refine WL.assign rfl rfl rfl ?_
              refine WL.done' ?_ (fun _ _ h => h)
              refine WC.cond_f rfl ?_
              refine WC.seqk ?_
              refine WC.region ?_
              refine WL.move rfl rfl rfl ?_
              have hc126 : (((x61.1.tmod 12) : Int) == 9) = false := beq_eq_false_iff_ne.2 (by omega)
              refine WL.eql rfl rfl rfl rfl hc126 ?_
              refine WL.move rfl rfl rfl ?_
              refine WL.pass rfl rfl ?_
              refine WL.pass rfl rfl ?_
              refine WL.pick_f rfl rfl rfl rfl ?_
              refine WL.move rfl rfl rfl ?_
              refine WL.pass rfl rfl ?_
              refine WL.pass rfl rfl ?_
              refine WL.pick_f rfl rfl rfl rfl ?_
              refine WL.assign rfl rfl rfl ?_
              refine WL.done' ?_ (fun _ _ h => h)
              refine WC.cond_f rfl ?_
              refine WC.seqk ?_
              refine WC.region ?_
              refine WL.move rfl rfl rfl ?_
              have hc127 : decide ((9 : Int) < (x61.1.tmod 12)) = false := decide_eq_false (by omega)
              refine WL.gtr rfl rfl rfl rfl hc127 ?_
              refine WL.move rfl rfl rfl ?_
              refine WL.pass rfl rfl ?_
              refine WL.pass rfl rfl ?_
              refine WL.pick_f rfl rfl rfl rfl ?_
              refine WL.move rfl rfl rfl ?_
              refine WL.pass rfl rfl ?_
              refine WL.pass rfl rfl ?_
              refine WL.pass rfl rfl ?_
              refine WL.pass rfl rfl ?_
              refine WL.pass rfl rfl ?_
              refine WL.pass rfl rfl ?_
              refine WL.pass rfl rfl ?_
              refine WL.pick_f rfl rfl rfl rfl ?_
              refine WL.assign rfl rfl rfl ?_
              refine WL.done' ?_ (fun _ _ h => h)
              refine WC.cond_f rfl ?_
              refine WC.skip'' ?_ (fun _ _ h => h)
              refine WC.region ?_
              refine WL.add (v := (k : Int) + 1) rfl rfl rfl rfl (IntWalk.i64_in _ (by omega)) ?_
              refine WL.move rfl rfl rfl ?_
              refine WL.nil (fun a_ ha => ?_)
              have h128 := ((hO.ext hE66).but hB69 (fun h1 => by first | omega | (dsimp only at h1; omega)) (fun hk => by have := (hO.ext hE66).own _ hk; have := hol _ hk; omega))
              have h129 := (hB69.row (hR2.ext hE66) (by omega))
              exact ⟨(k + 1, .slice ap pile.length capp, ⟨pile, u, gr⟩), _, ha.weaken (subReg_cons rfl (subReg_cons rfl (subReg_cons rfl (subReg_cons rfl (subReg_cons rfl (subReg_cons rfl (subReg_cons rfl (subReg_nil _)))))))), ⟨rfl, (hB69.onto (hE7.trans hE66) (by omega)), ⟨by first | omega | (dsimp only; omega), by omega, (by rw [Nd.madeSt_succ hx61, ← hst]; simp only [Nd.stepM, hc71, hc72, hc73, hc74, hc125, hc126, hc127, Nd.mostM, Nd.empty, cond_false, Bool.false_and, Bool.and_false]), h129, (h128.dom (by intro k h1 _ _; (try dsimp only at h1); (repeat' first | (guard_hyp h1 : _ ∨ _; refine Or.elim h1 (fun h1 => ?_) (fun h1 => ?_)) | (guard_hyp h1 : _ ∧ _; have hx := h1.2; replace h1 := h1.1)) <;> first | contradiction | omega | (dsimp only; omega)))⟩⟩, by first | omega | (dsimp only; omega)⟩
            | true =>
              refine WL.gtr rfl rfl rfl rfl hc125 ?_
              have hp125 := of_decide_eq_true hc125
              refine WL.pick_t rfl rfl rfl rfl ?_
              refine WL.assign rfl rfl rfl ?_
              refine WL.done' ?_ (fun _ _ h => h)
              refine WC.cond_t rfl ?_
              have h176 := ((hM.ext hE66).but hB69 (by rintro i hi ⟨h1, h2⟩; first | omega | (dsimp only at h1; omega)) (fun hk => by have := (hM.ext hE66).block _ hk; have := hol _ hk; omega))
              obtain ⟨t177, ht177⟩ : ∃ t, pile[(pile.length - 2)]? = some t := ⟨_, List.getElem?_eq_getElem (by omega)⟩
              obtain ⟨eb177, el177, hea177, hgb177, hgl177, her177, hn177⟩ := h176.at ht177
              obtain ⟨sl177, rfl, hts177⟩ := hn177.opn
              obtain ⟨a177, cap177, rfl, hlen177, -⟩ := hts177.get
              subst hea177
              obtain ⟨t178, ht178⟩ : ∃ t, pile[(pile.length - 1)]? = some t := ⟨_, List.getElem?_eq_getElem (by omega)⟩
              obtain ⟨eb178, el178, hea178, hgb178, hgl178, her178, hn178⟩ := h176.at ht178
              obtain ⟨sl178, rfl, hts178⟩ := hn178.opn
              obtain ⟨a178, cap178, rfl, hlen178, -⟩ := hts178.get
              cases hea178
              have h179 := ((hO.ext hE66).but hB69 (fun h1 => by first | omega | (dsimp only at h1; omega)) (fun hk => by have := (hO.ext hE66).own _ hk; have := hol _ hk; omega))
              have h180 := (hB69.row (hR2.ext hE66) (by omega))
              refine WC.weaken (r' := [(2, .pointer (some ⟨b1, 0, none⟩)), (20, .slice (some ⟨eb61, eo61, none⟩) ((xs.take 25).length) cap), (21, .int .i64 ((xs.take 25).length)), (22, .int .i64 (k : Int)), (3, .slice (some ⟨eb177, 0, none⟩) pile.length capp), (4, .int .i64 u), (5, .int .i64 gr), (23, .bool true), (24, .pointer (some ⟨eb61, eo61 + k * 3, none⟩)), (25, .agg #[.int .u8 x61.1, .int .u8 x61.2.1, .int .u8 x61.2.2]), (7, .pointer (some ⟨b62, 0, none⟩)), (26, .slice (some ⟨eb177, 0, none⟩) pile.length capp), (27, .int .i64 pile.length), (8, .int .i64 pile.length), (28, .pointer (some ⟨b62, 0, none⟩)), (29, .int .u8 x61.1), (30, .int .u8 (x61.1.tmod 12)), (9, .int .u8 (x61.1.tmod 12)), (32, .int .u8 (x61.1.tmod 12)), (33, .bool false), (31, .bool false), (42, .int .u8 (x61.1.tmod 12)), (43, .bool false), (41, .bool false), (49, .int .u8 (x61.1.tmod 12)), (50, .bool false), (51, .bool false), (52, undef), (53, undef), (54, .bool false), (48, .bool false), (75, .int .u8 (x61.1.tmod 12)), (76, .bool true), (77, .bool true), (78, .int .i64 pile.length), (79, .bool true), (80, .bool true), (74, .bool true)]) (subReg_cons rfl (subReg_cons rfl (subReg_cons rfl (subReg_cons rfl (subReg_cons rfl (subReg_cons rfl (subReg_cons rfl (subReg_cons rfl (subReg_cons rfl (subReg_cons rfl (subReg_cons rfl (subReg_cons rfl (subReg_cons rfl (subReg_cons rfl (subReg_cons rfl (subReg_cons rfl (subReg_cons rfl (subReg_cons rfl (subReg_cons rfl (subReg_cons rfl (subReg_cons rfl (subReg_cons rfl (subReg_cons rfl (subReg_cons rfl (subReg_cons rfl (subReg_cons rfl (subReg_cons rfl (subReg_cons rfl (subReg_cons rfl (subReg_cons rfl (subReg_cons rfl (subReg_cons rfl (subReg_cons rfl (subReg_cons rfl (subReg_cons rfl (subReg_cons rfl (subReg_cons rfl (subReg_cons rfl (subReg_nil _))))))))))))))))))))))))))))))))))))))) ?_
              refine WC.draw 19 [81, 82, 83, 84, 85, 86, 87, 88, 89, 90, 91, 92, 93, 94, 95, 96, 97, 98, 99] [pc (.slice (some ⟨eb177, 0, none⟩) pile.length capp), pc (.int .i64 pile.length), pc (.int .i64 ((pile.length - 2 : Nat) : Int)), pc (.int .i64 pile.length), pc (.int .i64 ((pile.length - 2 : Nat) : Int)), pc (.slice (some ⟨eb177, 0, none⟩) (pile.length - 2) (pile.length - 2)), pc (.slice (some ⟨eb177, 0, none⟩) pile.length capp), pc (.int .i64 pile.length), pc (.int .i64 ((pile.length - 2 : Nat) : Int)), pc (.pointer (some ⟨eb177, 0 + (pile.length - 2) * 8, none⟩)), pc (.agg #[.int .u8 t177.kind, .int .u64 t177.set.a, .int .u64 t177.set.b, .int .u64 t177.set.c, .int .u64 t177.set.d, .int .i64 t177.least, .int .i64 t177.most, .slice a177 t177.subs.length cap177]), pc (.slice (some ⟨eb177, 0, none⟩) pile.length capp), pc (.int .i64 pile.length), pc (.int .i64 ((pile.length - 1 : Nat) : Int)), pc (.pointer (some ⟨eb177, 0 + (pile.length - 1) * 8, none⟩)), pc (.agg #[.int .u8 t178.kind, .int .u64 t178.set.a, .int .u64 t178.set.b, .int .u64 t178.set.c, .int .u64 t178.set.d, .int .i64 t178.least, .int .i64 t178.most, .slice a178 t178.subs.length cap178]), pnode (fun k => w6.heap.size ≤ k) (Nd.joins 4 t177 t178), pnodes (fun k => w6.heap.size ≤ k) ([(Nd.joins 4 t177 t178)]), pown 29 w6.heap.size (fun k => w6.heap.size ≤ k) (pile.take (pile.length - 2) ++ [(Nd.joins 4 t177 t178)])] (by kernel_rfl) (by kernel_rfl) ⟨KW_pc _, KW_pc _, KW_pc _, KW_pc _, KW_pc _, KW_pc _, KW_pc _, KW_pc _, KW_pc _, KW_pc _, KW_pc _, KW_pc _, KW_pc _, KW_pc _, KW_pc _, KW_pc _, KW_pnode _ _, KW_pnodes _ _, KW_pown _ _ _ _, trivial⟩ rfl rfl rfl (StepsOn.cons ?_ (StepsOn.cons ?_ (StepsOn.cons ?_ (StepsOn.cons ?_ (StepsOn.cons ?_ (StepsOn.cons ?_ (StepsOn.cons ?_ (StepsOn.cons ?_ (StepsOn.cons ?_ (StepsOn.cons ?_ (StepsOn.cons ?_ (StepsOn.cons ?_ (StepsOn.cons ?_ (StepsOn.cons ?_ (StepsOn.cons ?_ (StepsOn.cons ?_ (StepsOn.cons ?_ (StepsOn.cons ?_ (StepsOn.cons ?_ (StepsOn.nil _)))))))))))))))))))) ?_
              · intro σ β w1 hE1 hbi hk
                have hz1 := hE1.size
                refine ⟨[], (agree_nil _), ?_⟩
                refine WL.move rfl rfl rfl ?_
                refine WL.nil (fun a_ ha => ?_)
                exact ⟨_, β, ha, (Ext.refl _), BExt.refl _ _, hbi.ext (Ext.refl _), rfl⟩
              · intro σ β w1 hE1 hbi hk
                have hz1 := hE1.size
                refine ⟨[], (agree_nil _), ?_⟩
                refine WL.move rfl rfl rfl ?_
                refine WL.nil (fun a_ ha => ?_)
                exact ⟨_, β, ha, (Ext.refl _), BExt.refl _ _, hbi.ext (Ext.refl _), rfl⟩
              · intro σ β w1 hE1 hbi hk
                have hz1 := hE1.size
                obtain ⟨_, hv1481, rfl⟩ := hk 1 (by kernel_rfl) _ _ rfl rfl
                refine ⟨[(82, .int .i64 pile.length)], (agree_cons (look_right rfl hv1481) (agree_nil _)), ?_⟩
                refine WL.sub (v := ((pile.length - 2 : Nat) : Int)) rfl rfl rfl rfl (by rw [IntWalk.i64_in _ (by omega)]; omega) ?_
                refine WL.nil (fun a_ ha => ?_)
                exact ⟨_, β, ha, (Ext.refl _), BExt.refl _ _, hbi.ext (Ext.refl _), rfl⟩
              · intro σ β w1 hE1 hbi hk
                have hz1 := hE1.size
                refine ⟨[], (agree_nil _), ?_⟩
                refine WL.move rfl rfl rfl ?_
                refine WL.nil (fun a_ ha => ?_)
                exact ⟨_, β, ha, (Ext.refl _), BExt.refl _ _, hbi.ext (Ext.refl _), rfl⟩
              · intro σ β w1 hE1 hbi hk
                have hz1 := hE1.size
                obtain ⟨_, hv1681, rfl⟩ := hk 3 (by kernel_rfl) _ _ rfl rfl
                refine ⟨[(84, .int .i64 pile.length)], (agree_cons (look_right rfl hv1681) (agree_nil _)), ?_⟩
                refine WL.sub (v := ((pile.length - 2 : Nat) : Int)) rfl rfl rfl rfl (by rw [IntWalk.i64_in _ (by omega)]; omega) ?_
                refine WL.nil (fun a_ ha => ?_)
                exact ⟨_, β, ha, (Ext.refl _), BExt.refl _ _, hbi.ext (Ext.refl _), rfl⟩
              · intro σ β w1 hE1 hbi hk
                have hz1 := hE1.size
                obtain ⟨_, hv1781, rfl⟩ := hk 0 (by kernel_rfl) _ _ rfl rfl
                obtain ⟨_, hv1782, rfl⟩ := hk 2 (by kernel_rfl) _ _ rfl rfl
                obtain ⟨_, hv1783, rfl⟩ := hk 4 (by kernel_rfl) _ _ rfl rfl
                refine ⟨[(81, .slice (some ⟨eb177, 0, none⟩) pile.length capp), (83, .int .i64 ((pile.length - 2 : Nat) : Int)), (85, .int .i64 ((pile.length - 2 : Nat) : Int))], (agree_cons (look_right rfl hv1781) (agree_cons (look_right rfl hv1782) (agree_cons (look_right rfl hv1783) (agree_nil _)))), ?_⟩
                refine WL.slice_hm (m := pile.length - 2) rfl rfl Ty.slice27 rfl rfl rfl (by omega) (by omega) (by omega) ?_
                refine WL.nil (fun a_ ha => ?_)
                exact ⟨_, β, ha, (Ext.refl _), BExt.refl _ _, hbi.ext (Ext.refl _), rfl⟩
              · intro σ β w1 hE1 hbi hk
                have hz1 := hE1.size
                refine ⟨[], (agree_nil _), ?_⟩
                refine WL.move rfl rfl rfl ?_
                refine WL.nil (fun a_ ha => ?_)
                exact ⟨_, β, ha, (Ext.refl _), BExt.refl _ _, hbi.ext (Ext.refl _), rfl⟩
              · intro σ β w1 hE1 hbi hk
                have hz1 := hE1.size
                refine ⟨[], (agree_nil _), ?_⟩
                refine WL.move rfl rfl rfl ?_
                refine WL.nil (fun a_ ha => ?_)
                exact ⟨_, β, ha, (Ext.refl _), BExt.refl _ _, hbi.ext (Ext.refl _), rfl⟩
              · intro σ β w1 hE1 hbi hk
                have hz1 := hE1.size
                obtain ⟨_, hv2081, rfl⟩ := hk 7 (by kernel_rfl) _ _ rfl rfl
                refine ⟨[(88, .int .i64 pile.length)], (agree_cons (look_right rfl hv2081) (agree_nil _)), ?_⟩
                refine WL.sub (v := ((pile.length - 2 : Nat) : Int)) rfl rfl rfl rfl (by rw [IntWalk.i64_in _ (by omega)]; omega) ?_
                refine WL.nil (fun a_ ha => ?_)
                exact ⟨_, β, ha, (Ext.refl _), BExt.refl _ _, hbi.ext (Ext.refl _), rfl⟩
              · intro σ β w1 hE1 hbi hk
                have hz1 := hE1.size
                obtain ⟨_, hv2181, rfl⟩ := hk 6 (by kernel_rfl) _ _ rfl rfl
                obtain ⟨_, hv2182, rfl⟩ := hk 8 (by kernel_rfl) _ _ rfl rfl
                refine ⟨[(87, .slice (some ⟨eb177, 0, none⟩) pile.length capp), (89, .int .i64 ((pile.length - 2 : Nat) : Int))], (agree_cons (look_right rfl hv2181) (agree_cons (look_right rfl hv2182) (agree_nil _))), ?_⟩
                refine WL.indexAddr (i := (pile.length - 2)) rfl rfl Ty.slice27 rfl rfl rfl (by omega) ?_
                refine WL.nil (fun a_ ha => ?_)
                exact ⟨_, β, ha, (Ext.refl _), BExt.refl _ _, hbi.ext (Ext.refl _), rfl⟩
              · intro σ β w1 hE1 hbi hk
                have hz1 := hE1.size
                obtain ⟨_, hv2281, rfl⟩ := hk 9 (by kernel_rfl) _ _ rfl rfl
                refine ⟨[(90, .pointer (some ⟨eb177, 0 + (pile.length - 2) * 8, none⟩))], (agree_cons (look_right rfl hv2281) (agree_nil _)), ?_⟩
                refine WL.load_agg (l := tcells t177 (.slice a177 t177.subs.length cap177)) rfl rfl Ty.agg29 rfl (her177.ext hE1) ?_
                refine WL.nil (fun a_ ha => ?_)
                exact ⟨_, β, ha, (Ext.refl _), BExt.refl _ _, hbi.ext (Ext.refl _), rfl⟩
              · intro σ β w1 hE1 hbi hk
                have hz1 := hE1.size
                refine ⟨[], (agree_nil _), ?_⟩
                refine WL.move rfl rfl rfl ?_
                refine WL.nil (fun a_ ha => ?_)
                exact ⟨_, β, ha, (Ext.refl _), BExt.refl _ _, hbi.ext (Ext.refl _), rfl⟩
              · intro σ β w1 hE1 hbi hk
                have hz1 := hE1.size
                refine ⟨[], (agree_nil _), ?_⟩
                refine WL.move rfl rfl rfl ?_
                refine WL.nil (fun a_ ha => ?_)
                exact ⟨_, β, ha, (Ext.refl _), BExt.refl _ _, hbi.ext (Ext.refl _), rfl⟩
              · intro σ β w1 hE1 hbi hk
                have hz1 := hE1.size
                obtain ⟨_, hv2581, rfl⟩ := hk 12 (by kernel_rfl) _ _ rfl rfl
                refine ⟨[(93, .int .i64 pile.length)], (agree_cons (look_right rfl hv2581) (agree_nil _)), ?_⟩
                refine WL.sub (v := ((pile.length - 1 : Nat) : Int)) rfl rfl rfl rfl (by rw [IntWalk.i64_in _ (by omega)]; omega) ?_
                refine WL.nil (fun a_ ha => ?_)
                exact ⟨_, β, ha, (Ext.refl _), BExt.refl _ _, hbi.ext (Ext.refl _), rfl⟩
              · intro σ β w1 hE1 hbi hk
                have hz1 := hE1.size
                obtain ⟨_, hv2681, rfl⟩ := hk 11 (by kernel_rfl) _ _ rfl rfl
                obtain ⟨_, hv2682, rfl⟩ := hk 13 (by kernel_rfl) _ _ rfl rfl
                refine ⟨[(92, .slice (some ⟨eb177, 0, none⟩) pile.length capp), (94, .int .i64 ((pile.length - 1 : Nat) : Int))], (agree_cons (look_right rfl hv2681) (agree_cons (look_right rfl hv2682) (agree_nil _))), ?_⟩
                refine WL.indexAddr (i := (pile.length - 1)) rfl rfl Ty.slice27 rfl rfl rfl (by omega) ?_
                refine WL.nil (fun a_ ha => ?_)
                exact ⟨_, β, ha, (Ext.refl _), BExt.refl _ _, hbi.ext (Ext.refl _), rfl⟩
              · intro σ β w1 hE1 hbi hk
                have hz1 := hE1.size
                obtain ⟨_, hv2781, rfl⟩ := hk 14 (by kernel_rfl) _ _ rfl rfl
                refine ⟨[(95, .pointer (some ⟨eb177, 0 + (pile.length - 1) * 8, none⟩))], (agree_cons (look_right rfl hv2781) (agree_nil _)), ?_⟩
                refine WL.load_agg (l := tcells t178 (.slice a178 t178.subs.length cap178)) rfl rfl Ty.agg29 rfl (her178.ext hE1) ?_
                refine WL.nil (fun a_ ha => ?_)
                exact ⟨_, β, ha, (Ext.refl _), BExt.refl _ _, hbi.ext (Ext.refl _), rfl⟩
              · intro σ β w1 hE1 hbi hk
                have hz1 := hE1.size
                obtain ⟨_, hv2881, rfl⟩ := hk 10 (by kernel_rfl) _ _ rfl rfl
                obtain ⟨_, hv2882, rfl⟩ := hk 15 (by kernel_rfl) _ _ rfl rfl
                refine ⟨[(91, .agg #[.int .u8 t177.kind, .int .u64 t177.set.a, .int .u64 t177.set.b, .int .u64 t177.set.c, .int .u64 t177.set.d, .int .i64 t177.least, .int .i64 t177.most, .slice a177 t177.subs.length cap177]), (96, .agg #[.int .u8 t178.kind, .int .u64 t178.set.a, .int .u64 t178.set.b, .int .u64 t178.set.c, .int .u64 t178.set.d, .int .i64 t178.least, .int .i64 t178.most, .slice a178 t178.subs.length cap178])], (agree_cons (look_right rfl hv2881) (agree_cons (look_right rfl hv2882) (agree_nil _))), ?_⟩
                refine WL.call rfl rfl rfl Ty.ent18 (joins_ok _ _ _ 4 _ _ t177 t178 (hn177.ext hE1) (hn178.ext hE1) (by have h1 := Nd.size_le_sizeL (List.mem_of_getElem? ht177); omega) (by have h1 := Nd.size_le_sizeL (List.mem_of_getElem? ht178); omega)) ?_
                rintro _ w2885 ⟨l2883, rfl, hr2883, hE2884⟩
                have hzhE2884 := hE2884.size
                refine ⟨_, rfl, ?_⟩
                have hn2883 := hr2883.lt
                obtain ⟨sl2883, rfl, hts2883⟩ := hn2883.opn
                obtain ⟨a2883, cap2883, rfl, hlen2883, -⟩ := hts2883.get
                refine WL.nil (fun a_ ha => ?_)
                exact ⟨_, β, ha, hE2884, BExt.refl _ _, hbi.ext hE2884, ⟨_, rfl, (hr2883.lt.dom (by intro k h1; refine ⟨(by replace h1 := h1.1; (try dsimp only at h1); (repeat' first | (guard_hyp h1 : _ ∨ _; refine Or.elim h1 (fun h1 => ?_) (fun h1 => ?_)) | (guard_hyp h1 : _ ∧ _; have hx := h1.2; replace h1 := h1.1)) <;> first | contradiction | omega), ?_, h1.2⟩; replace h1 := h1.1; intro x hxm; have hi := hbi.hi x hxm; have lo := hbi.lo x hxm; (try dsimp only at h1); (repeat' first | (guard_hyp h1 : _ ∨ _; refine Or.elim h1 (fun h1 => ?_) (fun h1 => ?_)) | (guard_hyp h1 : _ ∧ _; have hx := h1.2; replace h1 := h1.1)) <;> first | contradiction | omega | exact hx.1 x hxm))⟩⟩
              · intro σ β w1 hE1 hbi hk
                have hz1 := hE1.size
                obtain ⟨_, hv2981, l2981, rfl, hn2981⟩ := hk 16 (by kernel_rfl) _ _ rfl rfl
                have hn2981 := hn2981.lt
                obtain ⟨sl2981, rfl, hts2981⟩ := hn2981.opn
                obtain ⟨a2981, cap2981, rfl, hlen2981, -⟩ := hts2981.get
                refine ⟨[(97, .agg #[.int .u8 (Nd.joins 4 t177 t178).kind, .int .u64 (Nd.joins 4 t177 t178).set.a, .int .u64 (Nd.joins 4 t177 t178).set.b, .int .u64 (Nd.joins 4 t177 t178).set.c, .int .u64 (Nd.joins 4 t177 t178).set.d, .int .i64 (Nd.joins 4 t177 t178).least, .int .i64 (Nd.joins 4 t177 t178).most, .slice a2981 (Nd.joins 4 t177 t178).subs.length cap2981])], (agree_cons (look_right rfl hv2981) (agree_nil _)), ?_⟩
                refine WL.buildSlice (vs := [.agg #[.int .u8 (Nd.joins 4 t177 t178).kind, .int .u64 (Nd.joins 4 t177 t178).set.a, .int .u64 (Nd.joins 4 t177 t178).set.b, .int .u64 (Nd.joins 4 t177 t178).set.c, .int .u64 (Nd.joins 4 t177 t178).set.d, .int .i64 (Nd.joins 4 t177 t178).least, .int .i64 (Nd.joins 4 t177 t178).most, .slice a2981 (Nd.joins 4 t177 t178).subs.length cap2981]]) (cells := [.int .u8 (Nd.joins 4 t177 t178).kind, .int .u64 (Nd.joins 4 t177 t178).set.a, .int .u64 (Nd.joins 4 t177 t178).set.b, .int .u64 (Nd.joins 4 t177 t178).set.c, .int .u64 (Nd.joins 4 t177 t178).set.d, .int .i64 (Nd.joins 4 t177 t178).least, .int .i64 (Nd.joins 4 t177 t178).most, .slice a2981 (Nd.joins 4 t177 t178).subs.length cap2981]) rfl rfl Ty.slice27 Ty.zero29 rfl rfl rfl rfl rfl rfl (fun b2982 w2987 hb2983 hE2986 hs2984 hR2985 => ?_)
                have hts2982 := (NodesV.lit (n := 1) (ts := [(Nd.joins 4 t177 t178)]) hR2985 (RowsL.cons (hn2981.ext hE2986) (RowsL.nil' _)) rfl rfl (by decide)).lt
                refine WL.nil (fun a_ ha => ?_)
                exact ⟨_, β, ha, hE2986, BExt.refl _ _, hbi.ext hE2986, ⟨_, _, rfl, (hts2982.dom (by intro k h1; refine ⟨(by replace h1 := h1.1; (try dsimp only at h1); (repeat' first | (guard_hyp h1 : _ ∨ _; refine Or.elim h1 (fun h1 => ?_) (fun h1 => ?_)) | (guard_hyp h1 : _ ∧ _; have hx := h1.2; replace h1 := h1.1)) <;> first | contradiction | omega), ?_, h1.2⟩; replace h1 := h1.1; intro x hxm; have hi := hbi.hi x hxm; have lo := hbi.lo x hxm; (try dsimp only at h1); (repeat' first | (guard_hyp h1 : _ ∨ _; refine Or.elim h1 (fun h1 => ?_) (fun h1 => ?_)) | (guard_hyp h1 : _ ∧ _; have hx := h1.2; replace h1 := h1.1)) <;> first | contradiction | omega | exact hx.1 x hxm))⟩⟩
              · intro σ β w1 hE1 hbi hk
                have hz1 := hE1.size
                obtain ⟨_, hv3081, rfl⟩ := hk 5 (by kernel_rfl) _ _ rfl rfl
                obtain ⟨_, hv3082, a3082, cap3082, rfl, hts3082⟩ := hk 17 (by kernel_rfl) _ _ rfl rfl
                have hts3082 := hts3082.lt
                have hlen3082 := hts3082.len
                refine ⟨[(86, .slice (some ⟨eb177, 0, none⟩) (pile.length - 2) (pile.length - 2)), (98, .slice a3082 (([(Nd.joins 4 t177 t178)]).length) cap3082)], (agree_cons (look_right rfl hv3081) (agree_cons (look_right rfl hv3082) (agree_nil _))), ?_⟩
                have h3084 := (((hts.ext hE66).but hB69 (by intro h1; first | omega | ((try dsimp only at h1); (repeat' first | (guard_hyp h1 : _ ∨ _; refine Or.elim h1 (fun h1 => ?_) (fun h1 => ?_)) | (guard_hyp h1 : _ ∧ _; have hx := h1.2; replace h1 := h1.1)) <;> first | contradiction | omega))).ext hE1)
                refine WL.appendFull rfl rfl Ty.slice27 Ty.zero29 rfl small_node rfl rfl ((h3084).take (by omega) (Nat.le_refl _)) hts3082 (by simp) (fun h => by rw [(hnn h).1]; rfl) (by simp; omega) ?_
                intro v3083 w3083 hO3083 hE3083
                have hz3083 := hE3083.size
                refine WL.nil (fun a_ ha => ?_)
                exact ⟨_, β, ha, hE3083, BExt.refl _ _, hbi.ext hE3083, ((hO3083.rebase (by omega)).dom (by intro k h1 _ _; (try dsimp only at h1); (repeat' first | (guard_hyp h1 : _ ∨ _; refine Or.elim h1 (fun h1 => ?_) (fun h1 => ?_)) | (guard_hyp h1 : _ ∧ _; have hx := h1.2; replace h1 := h1.1)) <;> first | contradiction | omega | (dsimp only; omega)))⟩
              intro σ β w1080 hE1080 hbi1080 hk
              have hz1080 := hE1080.size
              have hbi := hbi1080
              obtain ⟨v1081, hv1081, hO1081⟩ := hk 18 (by decide) _ _ rfl rfl
              refine WL.know [(99, v1081)] (agree_cons (look_right rfl hv1081) (agree_nil _)) ?_
              refine WL.assign rfl rfl rfl ?_
              refine WL.done' ?_ (fun _ _ h => h)
              refine WC.region ?_
              refine WL.add (v := (k : Int) + 1) rfl rfl rfl rfl (IntWalk.i64_in _ (by omega)) ?_
              refine WL.move rfl rfl rfl ?_
              refine WL.nil (fun a_ ha => ?_)
              exact ⟨(k + 1, v1081, ⟨(pile.take (pile.length - 2) ++ [(Nd.joins 4 t177 t178)]), u, gr⟩), _, ha.weaken (subReg_cons rfl (subReg_cons rfl (subReg_cons rfl (subReg_cons rfl (subReg_cons rfl (subReg_cons rfl (subReg_cons rfl (subReg_nil _)))))))), ⟨rfl, ((hB69.onto (hE7.trans hE66) (by omega)).trans hE1080), ⟨by first | omega | (dsimp only; omega), by omega, (by rw [Nd.madeSt_succ hx61, ← hst]; simp only [Nd.stepM, hc71, hc72, hc73, hc74, hc125, Nd.mostM, Nd.empty, Nd.top2_at ht177, Nd.top_at ht178, cond_true, cond_false, Bool.and_true]), (h180.ext hE1080), (hO1081.dom (by intro k h1 _ _; (try dsimp only at h1); (repeat' first | (guard_hyp h1 : _ ∨ _; refine Or.elim h1 (fun h1 => ?_) (fun h1 => ?_)) | (guard_hyp h1 : _ ∧ _; have hx := h1.2; replace h1 := h1.1)) <;> first | contradiction | omega | (dsimp only; omega)))⟩⟩, by first | omega | (dsimp only; omega)⟩
        | true =>
          refine WL.lss rfl rfl rfl rfl hc73 ?_
          have hp73 := of_decide_eq_true hc73
          refine WL.move rfl rfl rfl ?_
          refine WL.move rfl rfl rfl ?_
          cases hc124 : decide ((1 : Int) < pile.length) with
          | false =>
            refine WL.gtr rfl rfl rfl rfl hc124 ?_
            have hp124 := of_decide_eq_false hc124
            refine WL.pick_t rfl rfl rfl rfl ?_
            refine WL.assign rfl rfl rfl ?_
            refine WL.done' ?_ (fun _ _ h => h)
            refine WC.cond_f rfl ?_
            refine WC.seqk ?_
            refine WC.region ?_
            refine WL.move rfl rfl rfl ?_
            have hc125 : decide (((x61.1.tmod 12) : Int) < 9) = true := decide_eq_true (by omega)
            refine WL.lss rfl rfl rfl rfl hc125 ?_
            refine WL.move rfl rfl rfl ?_
            refine WL.move rfl rfl rfl ?_
            refine WL.gtr rfl rfl rfl rfl hc124 ?_
            refine WL.pick_t rfl rfl rfl rfl ?_
            refine WL.assign rfl rfl rfl ?_
            refine WL.done' ?_ (fun _ _ h => h)
            refine WC.cond_f rfl ?_
            refine WC.seqk ?_
            refine WC.region ?_
            refine WL.move rfl rfl rfl ?_
            have hc126 : (((x61.1.tmod 12) : Int) == 9) = false := beq_eq_false_iff_ne.2 (by omega)
            refine WL.eql rfl rfl rfl rfl hc126 ?_
            refine WL.move rfl rfl rfl ?_
            refine WL.pass rfl rfl ?_
            refine WL.pass rfl rfl ?_
            refine WL.pick_f rfl rfl rfl rfl ?_
            refine WL.move rfl rfl rfl ?_
            refine WL.pass rfl rfl ?_
            refine WL.pass rfl rfl ?_
            refine WL.pick_f rfl rfl rfl rfl ?_
            refine WL.assign rfl rfl rfl ?_
            refine WL.done' ?_ (fun _ _ h => h)
            refine WC.cond_f rfl ?_
            refine WC.seqk ?_
            refine WC.region ?_
            refine WL.move rfl rfl rfl ?_
            have hc127 : decide ((9 : Int) < (x61.1.tmod 12)) = false := decide_eq_false (by omega)
            refine WL.gtr rfl rfl rfl rfl hc127 ?_
            refine WL.move rfl rfl rfl ?_
            refine WL.pass rfl rfl ?_
            refine WL.pass rfl rfl ?_
            refine WL.pick_f rfl rfl rfl rfl ?_
            refine WL.move rfl rfl rfl ?_
            refine WL.pass rfl rfl ?_
            refine WL.pass rfl rfl ?_
            refine WL.pass rfl rfl ?_
            refine WL.pass rfl rfl ?_
            refine WL.pass rfl rfl ?_
            refine WL.pass rfl rfl ?_
            refine WL.pass rfl rfl ?_
            refine WL.pick_f rfl rfl rfl rfl ?_
            refine WL.assign rfl rfl rfl ?_
            refine WL.done' ?_ (fun _ _ h => h)
            refine WC.cond_f rfl ?_
            refine WC.skip'' ?_ (fun _ _ h => h)
            refine WC.region ?_
            refine WL.add (v := (k : Int) + 1) rfl rfl rfl rfl (IntWalk.i64_in _ (by omega)) ?_
            refine WL.move rfl rfl rfl ?_
            refine WL.nil (fun a_ ha => ?_)
            have h128 := ((hO.ext hE66).but hB69 (fun h1 => by first | omega | (dsimp only at h1; omega)) (fun hk => by have := (hO.ext hE66).own _ hk; have := hol _ hk; omega))
            have h129 := (hB69.row (hR2.ext hE66) (by omega))
            exact ⟨(k + 1, .slice ap pile.length capp, ⟨pile, u, gr⟩), _, ha.weaken (subReg_cons rfl (subReg_cons rfl (subReg_cons rfl (subReg_cons rfl (subReg_cons rfl (subReg_cons rfl (subReg_cons rfl (subReg_nil _)))))))), ⟨rfl, (hB69.onto (hE7.trans hE66) (by omega)), ⟨by first | omega | (dsimp only; omega), by omega, (by rw [Nd.madeSt_succ hx61, ← hst]; simp only [Nd.stepM, hc71, hc72, hc73, hc124, hc125, hc126, hc127, Nd.mostM, Nd.empty, cond_false, Bool.false_and, Bool.and_false]), h129, (h128.dom (by intro k h1 _ _; (try dsimp only at h1); (repeat' first | (guard_hyp h1 : _ ∨ _; refine Or.elim h1 (fun h1 => ?_) (fun h1 => ?_)) | (guard_hyp h1 : _ ∧ _; have hx := h1.2; replace h1 := h1.1)) <;> first | contradiction | omega | (dsimp only; omega)))⟩⟩, by first | omega | (dsimp only; omega)⟩
          | true =>
            refine WL.gtr rfl rfl rfl rfl hc124 ?_
            have hp124 := of_decide_eq_true hc124
            refine WL.pick_t rfl rfl rfl rfl ?_
            refine WL.assign rfl rfl rfl ?_
            refine WL.done' ?_ (fun _ _ h => h)
            refine WC.cond_t rfl ?_
            have h175 := ((hM.ext hE66).but hB69 (by rintro i hi ⟨h1, h2⟩; first | omega | (dsimp only at h1; omega)) (fun hk => by have := (hM.ext hE66).block _ hk; have := hol _ hk; omega))
            obtain ⟨t176, ht176⟩ : ∃ t, pile[(pile.length - 2)]? = some t := ⟨_, List.getElem?_eq_getElem (by omega)⟩
            obtain ⟨eb176, el176, hea176, hgb176, hgl176, her176, hn176⟩ := h175.at ht176
            obtain ⟨sl176, rfl, hts176⟩ := hn176.opn
            obtain ⟨a176, cap176, rfl, hlen176, -⟩ := hts176.get
            subst hea176
            obtain ⟨t177, ht177⟩ : ∃ t, pile[(pile.length - 1)]? = some t := ⟨_, List.getElem?_eq_getElem (by omega)⟩
            obtain ⟨eb177, el177, hea177, hgb177, hgl177, her177, hn177⟩ := h175.at ht177
            obtain ⟨sl177, rfl, hts177⟩ := hn177.opn
            obtain ⟨a177, cap177, rfl, hlen177, -⟩ := hts177.get
            cases hea177
            have h178 := ((hO.ext hE66).but hB69 (fun h1 => by first | omega | (dsimp only at h1; omega)) (fun hk => by have := (hO.ext hE66).own _ hk; have := hol _ hk; omega))
            have h179 := (hB69.row (hR2.ext hE66) (by omega))
            refine WC.weaken (r' := [(2, .pointer (some ⟨b1, 0, none⟩)), (20, .slice (some ⟨eb61, eo61, none⟩) ((xs.take 25).length) cap), (21, .int .i64 ((xs.take 25).length)), (22, .int .i64 (k : Int)), (3, .slice (some ⟨eb176, 0, none⟩) pile.length capp), (4, .int .i64 u), (5, .int .i64 gr), (23, .bool true), (24, .pointer (some ⟨eb61, eo61 + k * 3, none⟩)), (25, .agg #[.int .u8 x61.1, .int .u8 x61.2.1, .int .u8 x61.2.2]), (7, .pointer (some ⟨b62, 0, none⟩)), (26, .slice (some ⟨eb176, 0, none⟩) pile.length capp), (27, .int .i64 pile.length), (8, .int .i64 pile.length), (28, .pointer (some ⟨b62, 0, none⟩)), (29, .int .u8 x61.1), (30, .int .u8 (x61.1.tmod 12)), (9, .int .u8 (x61.1.tmod 12)), (32, .int .u8 (x61.1.tmod 12)), (33, .bool false), (31, .bool false), (42, .int .u8 (x61.1.tmod 12)), (43, .bool false), (41, .bool false), (49, .int .u8 (x61.1.tmod 12)), (50, .bool true), (51, .bool true), (52, .int .i64 pile.length), (53, .bool true), (54, .bool true), (48, .bool true)]) (subReg_cons rfl (subReg_cons rfl (subReg_cons rfl (subReg_cons rfl (subReg_cons rfl (subReg_cons rfl (subReg_cons rfl (subReg_cons rfl (subReg_cons rfl (subReg_cons rfl (subReg_cons rfl (subReg_cons rfl (subReg_cons rfl (subReg_cons rfl (subReg_cons rfl (subReg_cons rfl (subReg_cons rfl (subReg_cons rfl (subReg_cons rfl (subReg_cons rfl (subReg_cons rfl (subReg_cons rfl (subReg_cons rfl (subReg_cons rfl (subReg_cons rfl (subReg_cons rfl (subReg_cons rfl (subReg_cons rfl (subReg_cons rfl (subReg_cons rfl (subReg_cons rfl (subReg_nil _)))))))))))))))))))))))))))))))) ?_
            refine WC.draw 19 [55, 56, 57, 58, 59, 60, 61, 62, 63, 64, 65, 66, 67, 68, 69, 70, 71, 72, 73] [pc (.slice (some ⟨eb176, 0, none⟩) pile.length capp), pc (.int .i64 pile.length), pc (.int .i64 ((pile.length - 2 : Nat) : Int)), pc (.int .i64 pile.length), pc (.int .i64 ((pile.length - 2 : Nat) : Int)), pc (.slice (some ⟨eb176, 0, none⟩) (pile.length - 2) (pile.length - 2)), pc (.slice (some ⟨eb176, 0, none⟩) pile.length capp), pc (.int .i64 pile.length), pc (.int .i64 ((pile.length - 2 : Nat) : Int)), pc (.pointer (some ⟨eb176, 0 + (pile.length - 2) * 8, none⟩)), pc (.agg #[.int .u8 t176.kind, .int .u64 t176.set.a, .int .u64 t176.set.b, .int .u64 t176.set.c, .int .u64 t176.set.d, .int .i64 t176.least, .int .i64 t176.most, .slice a176 t176.subs.length cap176]), pc (.slice (some ⟨eb176, 0, none⟩) pile.length capp), pc (.int .i64 pile.length), pc (.int .i64 ((pile.length - 1 : Nat) : Int)), pc (.pointer (some ⟨eb176, 0 + (pile.length - 1) * 8, none⟩)), pc (.agg #[.int .u8 t177.kind, .int .u64 t177.set.a, .int .u64 t177.set.b, .int .u64 t177.set.c, .int .u64 t177.set.d, .int .i64 t177.least, .int .i64 t177.most, .slice a177 t177.subs.length cap177]), pnode (fun k => w6.heap.size ≤ k) (Nd.joins 3 t176 t177), pnodes (fun k => w6.heap.size ≤ k) ([(Nd.joins 3 t176 t177)]), pown 29 w6.heap.size (fun k => w6.heap.size ≤ k) (pile.take (pile.length - 2) ++ [(Nd.joins 3 t176 t177)])] (by kernel_rfl) (by kernel_rfl) ⟨KW_pc _, KW_pc _, KW_pc _, KW_pc _, KW_pc _, KW_pc _, KW_pc _, KW_pc _, KW_pc _, KW_pc _, KW_pc _, KW_pc _, KW_pc _, KW_pc _, KW_pc _, KW_pc _, KW_pnode _ _, KW_pnodes _ _, KW_pown _ _ _ _, trivial⟩ rfl rfl rfl (StepsOn.cons ?_ (StepsOn.cons ?_ (StepsOn.cons ?_ (StepsOn.cons ?_ (StepsOn.cons ?_ (StepsOn.cons ?_ (StepsOn.cons ?_ (StepsOn.cons ?_ (StepsOn.cons ?_ (StepsOn.cons ?_ (StepsOn.cons ?_ (StepsOn.cons ?_ (StepsOn.cons ?_ (StepsOn.cons ?_ (StepsOn.cons ?_ (StepsOn.cons ?_ (StepsOn.cons ?_ (StepsOn.cons ?_ (StepsOn.cons ?_ (StepsOn.nil _)))))))))))))))))))) ?_
            · intro σ β w1 hE1 hbi hk
              have hz1 := hE1.size
              refine ⟨[], (agree_nil _), ?_⟩
              refine WL.move rfl rfl rfl ?_
              refine WL.nil (fun a_ ha => ?_)
              exact ⟨_, β, ha, (Ext.refl _), BExt.refl _ _, hbi.ext (Ext.refl _), rfl⟩
            · intro σ β w1 hE1 hbi hk
              have hz1 := hE1.size
              refine ⟨[], (agree_nil _), ?_⟩
              refine WL.move rfl rfl rfl ?_
              refine WL.nil (fun a_ ha => ?_)
              exact ⟨_, β, ha, (Ext.refl _), BExt.refl _ _, hbi.ext (Ext.refl _), rfl⟩
            · intro σ β w1 hE1 hbi hk
              have hz1 := hE1.size
              obtain ⟨_, hv1480, rfl⟩ := hk 1 (by kernel_rfl) _ _ rfl rfl
              refine ⟨[(56, .int .i64 pile.length)], (agree_cons (look_right rfl hv1480) (agree_nil _)), ?_⟩
              refine WL.sub (v := ((pile.length - 2 : Nat) : Int)) rfl rfl rfl rfl (by rw [IntWalk.i64_in _ (by omega)]; omega) ?_
              refine WL.nil (fun a_ ha => ?_)
              exact ⟨_, β, ha, (Ext.refl _), BExt.refl _ _, hbi.ext (Ext.refl _), rfl⟩
            · intro σ β w1 hE1 hbi hk
              have hz1 := hE1.size
              refine ⟨[], (agree_nil _), ?_⟩
              refine WL.move rfl rfl rfl ?_
              refine WL.nil (fun a_ ha => ?_)
              exact ⟨_, β, ha, (Ext.refl _), BExt.refl _ _, hbi.ext (Ext.refl _), rfl⟩
            · intro σ β w1 hE1 hbi hk
              have hz1 := hE1.size
              obtain ⟨_, hv1680, rfl⟩ := hk 3 (by kernel_rfl) _ _ rfl rfl
              refine ⟨[(58, .int .i64 pile.length)], (agree_cons (look_right rfl hv1680) (agree_nil _)), ?_⟩
              refine WL.sub (v := ((pile.length - 2 : Nat) : Int)) rfl rfl rfl rfl (by rw [IntWalk.i64_in _ (by omega)]; omega) ?_
              refine WL.nil (fun a_ ha => ?_)
              exact ⟨_, β, ha, (Ext.refl _), BExt.refl _ _, hbi.ext (Ext.refl _), rfl⟩
            · intro σ β w1 hE1 hbi hk
              have hz1 := hE1.size
              obtain ⟨_, hv1780, rfl⟩ := hk 0 (by kernel_rfl) _ _ rfl rfl
              obtain ⟨_, hv1781, rfl⟩ := hk 2 (by kernel_rfl) _ _ rfl rfl
              obtain ⟨_, hv1782, rfl⟩ := hk 4 (by kernel_rfl) _ _ rfl rfl
              refine ⟨[(55, .slice (some ⟨eb176, 0, none⟩) pile.length capp), (57, .int .i64 ((pile.length - 2 : Nat) : Int)), (59, .int .i64 ((pile.length - 2 : Nat) : Int))], (agree_cons (look_right rfl hv1780) (agree_cons (look_right rfl hv1781) (agree_cons (look_right rfl hv1782) (agree_nil _)))), ?_⟩
              refine WL.slice_hm (m := pile.length - 2) rfl rfl Ty.slice27 rfl rfl rfl (by omega) (by omega) (by omega) ?_
              refine WL.nil (fun a_ ha => ?_)
              exact ⟨_, β, ha, (Ext.refl _), BExt.refl _ _, hbi.ext (Ext.refl _), rfl⟩
            · intro σ β w1 hE1 hbi hk
              have hz1 := hE1.size
              refine ⟨[], (agree_nil _), ?_⟩
              refine WL.move rfl rfl rfl ?_
              refine WL.nil (fun a_ ha => ?_)
              exact ⟨_, β, ha, (Ext.refl _), BExt.refl _ _, hbi.ext (Ext.refl _), rfl⟩
            · intro σ β w1 hE1 hbi hk
              have hz1 := hE1.size
              refine ⟨[], (agree_nil _), ?_⟩
              refine WL.move rfl rfl rfl ?_
              refine WL.nil (fun a_ ha => ?_)
              exact ⟨_, β, ha, (Ext.refl _), BExt.refl _ _, hbi.ext (Ext.refl _), rfl⟩
            · intro σ β w1 hE1 hbi hk
              have hz1 := hE1.size
              obtain ⟨_, hv2080, rfl⟩ := hk 7 (by kernel_rfl) _ _ rfl rfl
              refine ⟨[(62, .int .i64 pile.length)], (agree_cons (look_right rfl hv2080) (agree_nil _)), ?_⟩
              refine WL.sub (v := ((pile.length - 2 : Nat) : Int)) rfl rfl rfl rfl (by rw [IntWalk.i64_in _ (by omega)]; omega) ?_
              refine WL.nil (fun a_ ha => ?_)
              exact ⟨_, β, ha, (Ext.refl _), BExt.refl _ _, hbi.ext (Ext.refl _), rfl⟩
            · intro σ β w1 hE1 hbi hk
              have hz1 := hE1.size
              obtain ⟨_, hv2180, rfl⟩ := hk 6 (by kernel_rfl) _ _ rfl rfl
              obtain ⟨_, hv2181, rfl⟩ := hk 8 (by kernel_rfl) _ _ rfl rfl
              refine ⟨[(61, .slice (some ⟨eb176, 0, none⟩) pile.length capp), (63, .int .i64 ((pile.length - 2 : Nat) : Int))], (agree_cons (look_right rfl hv2180) (agree_cons (look_right rfl hv2181) (agree_nil _))), ?_⟩
              refine WL.indexAddr (i := (pile.length - 2)) rfl rfl Ty.slice27 rfl rfl rfl (by omega) ?_
              refine WL.nil (fun a_ ha => ?_)
              exact ⟨_, β, ha, (Ext.refl _), BExt.refl _ _, hbi.ext (Ext.refl _), rfl⟩
            · intro σ β w1 hE1 hbi hk
              have hz1 := hE1.size
              obtain ⟨_, hv2280, rfl⟩ := hk 9 (by kernel_rfl) _ _ rfl rfl
              refine ⟨[(64, .pointer (some ⟨eb176, 0 + (pile.length - 2) * 8, none⟩))], (agree_cons (look_right rfl hv2280) (agree_nil _)), ?_⟩
              refine WL.load_agg (l := tcells t176 (.slice a176 t176.subs.length cap176)) rfl rfl Ty.agg29 rfl (her176.ext hE1) ?_
              refine WL.nil (fun a_ ha => ?_)
              exact ⟨_, β, ha, (Ext.refl _), BExt.refl _ _, hbi.ext (Ext.refl _), rfl⟩
            · intro σ β w1 hE1 hbi hk
              have hz1 := hE1.size
              refine ⟨[], (agree_nil _), ?_⟩
              refine WL.move rfl rfl rfl ?_
              refine WL.nil (fun a_ ha => ?_)
              exact ⟨_, β, ha, (Ext.refl _), BExt.refl _ _, hbi.ext (Ext.refl _), rfl⟩
            · intro σ β w1 hE1 hbi hk
              have hz1 := hE1.size
              refine ⟨[], (agree_nil _), ?_⟩
              refine WL.move rfl rfl rfl ?_
              refine WL.nil (fun a_ ha => ?_)
              exact ⟨_, β, ha, (Ext.refl _), BExt.refl _ _, hbi.ext (Ext.refl _), rfl⟩
            · intro σ β w1 hE1 hbi hk
              have hz1 := hE1.size
              obtain ⟨_, hv2580, rfl⟩ := hk 12 (by kernel_rfl) _ _ rfl rfl
              refine ⟨[(67, .int .i64 pile.length)], (agree_cons (look_right rfl hv2580) (agree_nil _)), ?_⟩
              refine WL.sub (v := ((pile.length - 1 : Nat) : Int)) rfl rfl rfl rfl (by rw [IntWalk.i64_in _ (by omega)]; omega) ?_
              refine WL.nil (fun a_ ha => ?_)
              exact ⟨_, β, ha, (Ext.refl _), BExt.refl _ _, hbi.ext (Ext.refl _), rfl⟩
            · intro σ β w1 hE1 hbi hk
              have hz1 := hE1.size
              obtain ⟨_, hv2680, rfl⟩ := hk 11 (by kernel_rfl) _ _ rfl rfl
              obtain ⟨_, hv2681, rfl⟩ := hk 13 (by kernel_rfl) _ _ rfl rfl
              refine ⟨[(66, .slice (some ⟨eb176, 0, none⟩) pile.length capp), (68, .int .i64 ((pile.length - 1 : Nat) : Int))], (agree_cons (look_right rfl hv2680) (agree_cons (look_right rfl hv2681) (agree_nil _))), ?_⟩
              refine WL.indexAddr (i := (pile.length - 1)) rfl rfl Ty.slice27 rfl rfl rfl (by omega) ?_
              refine WL.nil (fun a_ ha => ?_)
              exact ⟨_, β, ha, (Ext.refl _), BExt.refl _ _, hbi.ext (Ext.refl _), rfl⟩
            · intro σ β w1 hE1 hbi hk
              have hz1 := hE1.size
              obtain ⟨_, hv2780, rfl⟩ := hk 14 (by kernel_rfl) _ _ rfl rfl
              refine ⟨[(69, .pointer (some ⟨eb176, 0 + (pile.length - 1) * 8, none⟩))], (agree_cons (look_right rfl hv2780) (agree_nil _)), ?_⟩
              refine WL.load_agg (l := tcells t177 (.slice a177 t177.subs.length cap177)) rfl rfl Ty.agg29 rfl (her177.ext hE1) ?_
              refine WL.nil (fun a_ ha => ?_)
              exact ⟨_, β, ha, (Ext.refl _), BExt.refl _ _, hbi.ext (Ext.refl _), rfl⟩
            · intro σ β w1 hE1 hbi hk
              have hz1 := hE1.size
              obtain ⟨_, hv2880, rfl⟩ := hk 10 (by kernel_rfl) _ _ rfl rfl
              obtain ⟨_, hv2881, rfl⟩ := hk 15 (by kernel_rfl) _ _ rfl rfl
              refine ⟨[(65, .agg #[.int .u8 t176.kind, .int .u64 t176.set.a, .int .u64 t176.set.b, .int .u64 t176.set.c, .int .u64 t176.set.d, .int .i64 t176.least, .int .i64 t176.most, .slice a176 t176.subs.length cap176]), (70, .agg #[.int .u8 t177.kind, .int .u64 t177.set.a, .int .u64 t177.set.b, .int .u64 t177.set.c, .int .u64 t177.set.d, .int .i64 t177.least, .int .i64 t177.most, .slice a177 t177.subs.length cap177])], (agree_cons (look_right rfl hv2880) (agree_cons (look_right rfl hv2881) (agree_nil _))), ?_⟩
              refine WL.call rfl rfl rfl Ty.ent18 (joins_ok _ _ _ 3 _ _ t176 t177 (hn176.ext hE1) (hn177.ext hE1) (by have h1 := Nd.size_le_sizeL (List.mem_of_getElem? ht176); omega) (by have h1 := Nd.size_le_sizeL (List.mem_of_getElem? ht177); omega)) ?_
              rintro _ w2884 ⟨l2882, rfl, hr2882, hE2883⟩
              have hzhE2883 := hE2883.size
              refine ⟨_, rfl, ?_⟩
              have hn2882 := hr2882.lt
              obtain ⟨sl2882, rfl, hts2882⟩ := hn2882.opn
              obtain ⟨a2882, cap2882, rfl, hlen2882, -⟩ := hts2882.get
              refine WL.nil (fun a_ ha => ?_)
              exact ⟨_, β, ha, hE2883, BExt.refl _ _, hbi.ext hE2883, ⟨_, rfl, (hr2882.lt.dom (by intro k h1; refine ⟨(by replace h1 := h1.1; (try dsimp only at h1); (repeat' first | (guard_hyp h1 : _ ∨ _; refine Or.elim h1 (fun h1 => ?_) (fun h1 => ?_)) | (guard_hyp h1 : _ ∧ _; have hx := h1.2; replace h1 := h1.1)) <;> first | contradiction | omega), ?_, h1.2⟩; replace h1 := h1.1; intro x hxm; have hi := hbi.hi x hxm; have lo := hbi.lo x hxm; (try dsimp only at h1); (repeat' first | (guard_hyp h1 : _ ∨ _; refine Or.elim h1 (fun h1 => ?_) (fun h1 => ?_)) | (guard_hyp h1 : _ ∧ _; have hx := h1.2; replace h1 := h1.1)) <;> first | contradiction | omega | exact hx.1 x hxm))⟩⟩
            · intro σ β w1 hE1 hbi hk
              have hz1 := hE1.size
              obtain ⟨_, hv2980, l2980, rfl, hn2980⟩ := hk 16 (by kernel_rfl) _ _ rfl rfl
              have hn2980 := hn2980.lt
              obtain ⟨sl2980, rfl, hts2980⟩ := hn2980.opn
              obtain ⟨a2980, cap2980, rfl, hlen2980, -⟩ := hts2980.get
              refine ⟨[(71, .agg #[.int .u8 (Nd.joins 3 t176 t177).kind, .int .u64 (Nd.joins 3 t176 t177).set.a, .int .u64 (Nd.joins 3 t176 t177).set.b, .int .u64 (Nd.joins 3 t176 t177).set.c, .int .u64 (Nd.joins 3 t176 t177).set.d, .int .i64 (Nd.joins 3 t176 t177).least, .int .i64 (Nd.joins 3 t176 t177).most, .slice a2980 (Nd.joins 3 t176 t177).subs.length cap2980])], (agree_cons (look_right rfl hv2980) (agree_nil _)), ?_⟩
              refine WL.buildSlice (vs := [.agg #[.int .u8 (Nd.joins 3 t176 t177).kind, .int .u64 (Nd.joins 3 t176 t177).set.a, .int .u64 (Nd.joins 3 t176 t177).set.b, .int .u64 (Nd.joins 3 t176 t177).set.c, .int .u64 (Nd.joins 3 t176 t177).set.d, .int .i64 (Nd.joins 3 t176 t177).least, .int .i64 (Nd.joins 3 t176 t177).most, .slice a2980 (Nd.joins 3 t176 t177).subs.length cap2980]]) (cells := [.int .u8 (Nd.joins 3 t176 t177).kind, .int .u64 (Nd.joins 3 t176 t177).set.a, .int .u64 (Nd.joins 3 t176 t177).set.b, .int .u64 (Nd.joins 3 t176 t177).set.c, .int .u64 (Nd.joins 3 t176 t177).set.d, .int .i64 (Nd.joins 3 t176 t177).least, .int .i64 (Nd.joins 3 t176 t177).most, .slice a2980 (Nd.joins 3 t176 t177).subs.length cap2980]) rfl rfl Ty.slice27 Ty.zero29 rfl rfl rfl rfl rfl rfl (fun b2981 w2986 hb2982 hE2985 hs2983 hR2984 => ?_)
              have hts2981 := (NodesV.lit (n := 1) (ts := [(Nd.joins 3 t176 t177)]) hR2984 (RowsL.cons (hn2980.ext hE2985) (RowsL.nil' _)) rfl rfl (by decide)).lt
              refine WL.nil (fun a_ ha => ?_)
              exact ⟨_, β, ha, hE2985, BExt.refl _ _, hbi.ext hE2985, ⟨_, _, rfl, (hts2981.dom (by intro k h1; refine ⟨(by replace h1 := h1.1; (try dsimp only at h1); (repeat' first | (guard_hyp h1 : _ ∨ _; refine Or.elim h1 (fun h1 => ?_) (fun h1 => ?_)) | (guard_hyp h1 : _ ∧ _; have hx := h1.2; replace h1 := h1.1)) <;> first | contradiction | omega), ?_, h1.2⟩; replace h1 := h1.1; intro x hxm; have hi := hbi.hi x hxm; have lo := hbi.lo x hxm; (try dsimp only at h1); (repeat' first | (guard_hyp h1 : _ ∨ _; refine Or.elim h1 (fun h1 => ?_) (fun h1 => ?_)) | (guard_hyp h1 : _ ∧ _; have hx := h1.2; replace h1 := h1.1)) <;> first | contradiction | omega | exact hx.1 x hxm))⟩⟩
            · intro σ β w1 hE1 hbi hk
              have hz1 := hE1.size
              obtain ⟨_, hv3080, rfl⟩ := hk 5 (by kernel_rfl) _ _ rfl rfl
              obtain ⟨_, hv3081, a3081, cap3081, rfl, hts3081⟩ := hk 17 (by kernel_rfl) _ _ rfl rfl
              have hts3081 := hts3081.lt
              have hlen3081 := hts3081.len
              refine ⟨[(60, .slice (some ⟨eb176, 0, none⟩) (pile.length - 2) (pile.length - 2)), (72, .slice a3081 (([(Nd.joins 3 t176 t177)]).length) cap3081)], (agree_cons (look_right rfl hv3080) (agree_cons (look_right rfl hv3081) (agree_nil _))), ?_⟩
              have h3083 := (((hts.ext hE66).but hB69 (by intro h1; first | omega | ((try dsimp only at h1); (repeat' first | (guard_hyp h1 : _ ∨ _; refine Or.elim h1 (fun h1 => ?_) (fun h1 => ?_)) | (guard_hyp h1 : _ ∧ _; have hx := h1.2; replace h1 := h1.1)) <;> first | contradiction | omega))).ext hE1)
              refine WL.appendFull rfl rfl Ty.slice27 Ty.zero29 rfl small_node rfl rfl ((h3083).take (by omega) (Nat.le_refl _)) hts3081 (by simp) (fun h => by rw [(hnn h).1]; rfl) (by simp; omega) ?_
              intro v3082 w3082 hO3082 hE3082
              have hz3082 := hE3082.size
              refine WL.nil (fun a_ ha => ?_)
              exact ⟨_, β, ha, hE3082, BExt.refl _ _, hbi.ext hE3082, ((hO3082.rebase (by omega)).dom (by intro k h1 _ _; (try dsimp only at h1); (repeat' first | (guard_hyp h1 : _ ∨ _; refine Or.elim h1 (fun h1 => ?_) (fun h1 => ?_)) | (guard_hyp h1 : _ ∧ _; have hx := h1.2; replace h1 := h1.1)) <;> first | contradiction | omega | (dsimp only; omega)))⟩
            intro σ β w1079 hE1079 hbi1079 hk
            have hz1079 := hE1079.size
            have hbi := hbi1079
            obtain ⟨v1080, hv1080, hO1080⟩ := hk 18 (by decide) _ _ rfl rfl
            refine WL.know [(73, v1080)] (agree_cons (look_right rfl hv1080) (agree_nil _)) ?_
            refine WL.assign rfl rfl rfl ?_
            refine WL.done' ?_ (fun _ _ h => h)
            refine WC.region ?_
            refine WL.add (v := (k : Int) + 1) rfl rfl rfl rfl (IntWalk.i64_in _ (by omega)) ?_
            refine WL.move rfl rfl rfl ?_
            refine WL.nil (fun a_ ha => ?_)
            exact ⟨(k + 1, v1080, ⟨(pile.take (pile.length - 2) ++ [(Nd.joins 3 t176 t177)]), u, gr⟩), _, ha.weaken (subReg_cons rfl (subReg_cons rfl (subReg_cons rfl (subReg_cons rfl (subReg_cons rfl (subReg_cons rfl (subReg_cons rfl (subReg_nil _)))))))), ⟨rfl, ((hB69.onto (hE7.trans hE66) (by omega)).trans hE1079), ⟨by first | omega | (dsimp only; omega), by omega, (by rw [Nd.madeSt_succ hx61, ← hst]; simp only [Nd.stepM, hc71, hc72, hc73, hc124, Nd.mostM, Nd.empty, Nd.top2_at ht176, Nd.top_at ht177, cond_true, cond_false, Bool.and_true]), (h179.ext hE1079), (hO1080.dom (by intro k h1 _ _; (try dsimp only at h1); (repeat' first | (guard_hyp h1 : _ ∨ _; refine Or.elim h1 (fun h1 => ?_) (fun h1 => ?_)) | (guard_hyp h1 : _ ∧ _; have hx := h1.2; replace h1 := h1.1)) <;> first | contradiction | omega | (dsimp only; omega)))⟩⟩, by first | omega | (dsimp only; omega)⟩
      | true =>
        refine WL.eql rfl rfl rfl rfl hc72 ?_
        have hp72 := beq_iff_eq.1 hc72
        refine WL.assign rfl rfl rfl ?_
        refine WL.done' ?_ (fun _ _ h => h)
        refine WC.cond_t rfl ?_
        refine WC.region ?_
        refine WL.move rfl rfl rfl ?_
        refine WL.build (l := [.int .u8 1, .int .u64 0, .int .u64 0, .int .u64 0, .int .u64 0, .int .i64 0, .int .i64 0, .slice none 0 0]) rfl rfl Ty.zero29 Ty.st29 ⟨⟨rfl, rfl⟩, (by kernel_rfl)⟩ ?_
        have hn123 : NodeL _ w70 [.int .u8 1, .int .u64 0, .int .u64 0, .int .u64 0, .int .u64 0, .int .i64 0, .int .i64 0, .slice none 0 0] (Nd.mk 1 Nd.zero 0 0 ([])) := NodeL.shut (k := 1) (s := Nd.zero) (mn := 0) (mx := 0) (sl := .slice none 0 0) (ts := []) (NodesV.nil (fun _ => False) _ none 0)
        have hn123 := hn123.lt
        refine WL.buildSlice (vs := [.agg #[.int .u8 1, .int .u64 0, .int .u64 0, .int .u64 0, .int .u64 0, .int .i64 0, .int .i64 0, .slice none 0 0]]) (cells := [.int .u8 1, .int .u64 0, .int .u64 0, .int .u64 0, .int .u64 0, .int .i64 0, .int .i64 0, .slice none 0 0]) rfl rfl Ty.slice27 Ty.zero29 rfl rfl rfl rfl rfl rfl (fun b124 w129 hb125 hE128 hs126 hR127 => ?_)
        have hts124 := (NodesV.lit (n := 1) (ts := [(Nd.mk 1 Nd.zero 0 0 ([]))]) hR127 (RowsL.cons (hn123.ext hE128) (RowsL.nil' _)) rfl rfl (by decide)).lt
        have h130 := (((hO.ext hE66).but hB69 (fun h1 => by first | omega | (dsimp only at h1; omega)) (fun hk => by have := (hO.ext hE66).own _ hk; have := hol _ hk; omega)).ext hE128)
        have hol131 := h130.own
        refine WL.append1 rfl rfl Ty.slice27 Ty.zero29 rfl small_node rfl rfl h130 hR127 (hn123.ext hE128) (by intro k h1 hh; have := hol131 _ hh; have := hol _ hh; first | omega | ((try dsimp only at h1); (repeat' first | (guard_hyp h1 : _ ∨ _; refine Or.elim h1 (fun h1 => ?_) (fun h1 => ?_)) | (guard_hyp h1 : _ ∧ _; have hx := h1.2; replace h1 := h1.1)) <;> first | contradiction | omega)) (by omega) (by omega) ?_
        intro v131 w131 hG131 hO131 hv131
        have hE131 := grown_below hG131 ((hB69.onto (hE7.trans hE66) (by omega)).trans hE128) (by intro k hk; have := hol131 _ hk; omega)
        have hz131 := hE131.size
        have hzz131 := hG131.size
        refine WL.assign rfl rfl rfl ?_
        refine WL.done' ?_ (fun _ _ h => h)
        refine WC.region ?_
        refine WL.add (v := (k : Int) + 1) rfl rfl rfl rfl (IntWalk.i64_in _ (by omega)) ?_
        refine WL.move rfl rfl rfl ?_
        refine WL.nil (fun a_ ha => ?_)
        have h132 := (grown_row hG131 ((hB69.row (hR2.ext hE66) (by omega)).ext hE128) (fun hh => by have := hol131 _ hh; have := hol _ hh; omega))
        exact ⟨(k + 1, v131, ⟨pile ++ [(Nd.mk 1 Nd.zero 0 0 ([]))], u, gr⟩), _, ha.weaken (subReg_cons rfl (subReg_cons rfl (subReg_cons rfl (subReg_cons rfl (subReg_cons rfl (subReg_cons rfl (subReg_cons rfl (subReg_nil _)))))))), ⟨rfl, hE131, ⟨by first | omega | (dsimp only; omega), by omega, (by rw [Nd.madeSt_succ hx61, ← hst]; simp only [Nd.stepM, hc71, hc72, Nd.mostM, Nd.empty, cond_true, cond_false]), h132, (hO131.dom (by intro k h1 _ _; (try dsimp only at h1); (repeat' first | (guard_hyp h1 : _ ∨ _; refine Or.elim h1 (fun h1 => ?_) (fun h1 => ?_)) | (guard_hyp h1 : _ ∧ _; have hx := h1.2; replace h1 := h1.1)) <;> first | contradiction | omega | (dsimp only; omega)))⟩⟩, by first | omega | (dsimp only; omega)⟩
    | true =>
      refine WL.lss rfl rfl rfl rfl hc71 ?_
      have hp71 := of_decide_eq_true hc71
      refine WL.assign rfl rfl rfl ?_
      refine WL.done' ?_ (fun _ _ h => h)
      refine WC.cond_t rfl ?_
      refine WC.region ?_
      refine WL.move rfl rfl rfl ?_
      refine WL.fieldAddr rfl rfl Ty.fld53_1 rfl ?_
      refine WL.load_fld rfl rfl Ty.flat5 rfl hR68 rfl ?_
      refine WL.call rfl rfl rfl Ty.ent31 (letters_ok _ x61.2.1 (by omega)) ?_
      rintro _ w123 ⟨rfl, hE122⟩
      have hzhE122 := hE122.size
      refine ⟨_, rfl, ?_⟩
      refine WL.call rfl rfl rfl Ty.ent20 (class_ok _ (Nd.lettersS x61.2.1) (by first | decide | exact Nd.lettersS_len _)) ?_
      rintro _ w126 ⟨l124, rfl, hr124, hE125⟩
      have hzhE125 := hE125.size
      refine ⟨_, rfl, ?_⟩
      have hn124 := hr124.lt
      obtain ⟨sl124, rfl, hts124⟩ := hn124.opn
      obtain ⟨a124, cap124, rfl, hlen124, -⟩ := hts124.get
      refine WL.buildSlice (vs := [.agg #[.int .u8 (Nd.classS (Nd.lettersS x61.2.1)).kind, .int .u64 (Nd.classS (Nd.lettersS x61.2.1)).set.a, .int .u64 (Nd.classS (Nd.lettersS x61.2.1)).set.b, .int .u64 (Nd.classS (Nd.lettersS x61.2.1)).set.c, .int .u64 (Nd.classS (Nd.lettersS x61.2.1)).set.d, .int .i64 (Nd.classS (Nd.lettersS x61.2.1)).least, .int .i64 (Nd.classS (Nd.lettersS x61.2.1)).most, .slice a124 (Nd.classS (Nd.lettersS x61.2.1)).subs.length cap124]]) (cells := [.int .u8 (Nd.classS (Nd.lettersS x61.2.1)).kind, .int .u64 (Nd.classS (Nd.lettersS x61.2.1)).set.a, .int .u64 (Nd.classS (Nd.lettersS x61.2.1)).set.b, .int .u64 (Nd.classS (Nd.lettersS x61.2.1)).set.c, .int .u64 (Nd.classS (Nd.lettersS x61.2.1)).set.d, .int .i64 (Nd.classS (Nd.lettersS x61.2.1)).least, .int .i64 (Nd.classS (Nd.lettersS x61.2.1)).most, .slice a124 (Nd.classS (Nd.lettersS x61.2.1)).subs.length cap124]) rfl rfl Ty.slice27 Ty.zero29 rfl rfl rfl rfl rfl rfl (fun b127 w132 hb128 hE131 hs129 hR130 => ?_)
      have hts127 := (NodesV.lit (n := 1) (ts := [(Nd.classS (Nd.lettersS x61.2.1))]) hR130 (RowsL.cons (hn124.ext hE131) (RowsL.nil' _)) rfl rfl (by decide)).lt
      have h133 := (((((hO.ext hE66).but hB69 (fun h1 => by first | omega | (dsimp only at h1; omega)) (fun hk => by have := (hO.ext hE66).own _ hk; have := hol _ hk; omega)).ext hE122).ext hE125).ext hE131)
      have hol134 := h133.own
      refine WL.append1 rfl rfl Ty.slice27 Ty.zero29 rfl small_node rfl rfl h133 hR130 (hn124.ext hE131) (by intro k h1 hh; have := hol134 _ hh; have := hol _ hh; first | omega | ((try dsimp only at h1); (repeat' first | (guard_hyp h1 : _ ∨ _; refine Or.elim h1 (fun h1 => ?_) (fun h1 => ?_)) | (guard_hyp h1 : _ ∧ _; have hx := h1.2; replace h1 := h1.1)) <;> first | contradiction | omega)) (by omega) (by omega) ?_
      intro v134 w134 hG134 hO134 hv134
      have hE134 := grown_below hG134 ((((hB69.onto (hE7.trans hE66) (by omega)).trans hE122).trans hE125).trans hE131) (by intro k hk; have := hol134 _ hk; omega)
      have hz134 := hE134.size
      have hzz134 := hG134.size
      refine WL.assign rfl rfl rfl ?_
      refine WL.done' ?_ (fun _ _ h => h)
      refine WC.region ?_
      refine WL.add (v := (k : Int) + 1) rfl rfl rfl rfl (IntWalk.i64_in _ (by omega)) ?_
      refine WL.move rfl rfl rfl ?_
      refine WL.nil (fun a_ ha => ?_)
      have h135 := (grown_row hG134 ((((hB69.row (hR2.ext hE66) (by omega)).ext hE122).ext hE125).ext hE131) (fun hh => by have := hol134 _ hh; have := hol _ hh; omega))
      exact ⟨(k + 1, v134, ⟨pile ++ [(Nd.classS (Nd.lettersS x61.2.1))], u, gr⟩), _, ha.weaken (subReg_cons rfl (subReg_cons rfl (subReg_cons rfl (subReg_cons rfl (subReg_cons rfl (subReg_cons rfl (subReg_cons rfl (subReg_nil _)))))))), ⟨rfl, hE134, ⟨by first | omega | (dsimp only; omega), by omega, (by rw [Nd.madeSt_succ hx61, ← hst]; simp only [Nd.stepM, hc71, Nd.mostM, Nd.empty, cond_true]), h135, (hO134.dom (by intro k h1 _ _; (try dsimp only at h1); (repeat' first | (guard_hyp h1 : _ ∨ _; refine Or.elim h1 (fun h1 => ?_) (fun h1 => ?_)) | (guard_hyp h1 : _ ∧ _; have hx := h1.2; replace h1 := h1.1)) <;> first | contradiction | omega | (dsimp only; omega)))⟩⟩, by first | omega | (dsimp only; omega)⟩

end Go.Proofs.Ytaggidjijekpbaa
