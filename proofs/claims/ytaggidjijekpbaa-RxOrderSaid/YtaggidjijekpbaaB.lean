/- Walks through the program's functions: each computes what the plain Lean function says. Printed by our own gen/r8.py. -/
import Derived.Test.YtaggidjijekpbaaLight
import Derived.KernelRfl
namespace Go.Proofs.Ytaggidjijekpbaa
open Go.Proofs Go.RowKit

set_option maxRecDepth 20000 in
set_option maxHeartbeats 4000000 in
theorem positions_ok (T : Nd) : ∀ (D : Nat → Prop) (w : World) (l : List Value) (_hT : NodeL D w l T) (_hsz : T.size ≤ 10000),
    Calls Try.prog 39 #[.agg l.toArray] w fun e w' => e = .returned (.int .i64 T.posn) ∧ Ext w w' := by
  induction T using Nd.ind with
  | h kd st mn mx tsx ih =>
  intro D w l hT hsz
  replace ih : ∀ t, t ∈ (Nd.mk kd st mn mx tsx).subs → _ := ih
  generalize Nd.mk kd st mn mx tsx = T at *
  clear kd st mn mx tsx
  have hT := hT.lt
  obtain ⟨sl, rfl, hts⟩ := hT.opn
  obtain ⟨a, cap, rfl, hlen, -⟩ := hts.get
  have hls := Nd.length_le_sizeL T.subs
  have hss := Nd.size_subs T
  refine Calls.enter (args := [.agg #[.int .u8 T.kind, .int .u64 T.set.a, .int .u64 T.set.b, .int .u64 T.set.c, .int .u64 T.set.d, .int .i64 T.least, .int .i64 T.most, .slice a T.subs.length cap]]) Try.func39 rfl rfl rfl rfl ?_
  refine WC.seqk ?_
  refine WC.region ?_
  refine WL.box_agg rfl rfl rfl (fun b1 w6 hb2 hE5 hs3 hR4 => ?_)
  refine WL.assign rfl rfl rfl ?_
  refine WL.done' ?_ (fun _ _ h => h)
  refine WC.seqk ?_
  refine WC.region ?_
  refine WL.assign rfl rfl rfl ?_
  refine WL.done' ?_ (fun _ _ h => h)
  refine WC.seqk ?_
  refine WC.seqk ?_
  refine WC.region ?_
  refine WL.fieldAddr rfl rfl Ty.fld29_0 rfl ?_
  refine WL.load_fld rfl rfl Ty.flat5 rfl hR4 rfl ?_
  cases hc7 : ((T.kind : Int) == 2) with
  | false =>
    refine WL.eql rfl rfl rfl rfl hc7 ?_
    have hp7 := beq_eq_false_iff_ne.1 hc7
    refine WL.done' ?_ (fun _ _ h => h)
    refine WC.cond_f rfl ?_
    refine WC.skip'' ?_ (fun _ _ h => h)
    refine WC.seqk ?_
    refine WC.seqk ?_
    refine WC.region ?_
    refine WL.fieldAddr rfl rfl Ty.fld29_4 rfl ?_
    refine WL.load_fld rfl rfl Ty.flat27 rfl hR4 rfl ?_
    refine WL.len rfl rfl Try.underlying27 rfl ?_
    refine WL.move rfl rfl rfl ?_
    refine WL.done' ?_ (fun _ _ h => h)
    refine WC.block ?_
    refine WC.weaken (r' := [(1, .pointer (some ⟨b1, 0, none⟩)), (12, .slice a T.subs.length cap), (13, .int .i64 T.subs.length), (3, .int .i64 0), (14, .int .i64 0)]) (subReg_cons rfl (subReg_cons rfl (subReg_cons rfl (subReg_cons rfl (subReg_cons rfl (subReg_nil _)))))) ?_
    refine WC.loop (σ := Nat) (fun k r_ w_ => r_ = [(1, .pointer (some ⟨b1, 0, none⟩)), (12, .slice a T.subs.length cap), (13, .int .i64 T.subs.length), (3, .int .i64 (0 + Nd.posnL (T.subs.take k))), (14, .int .i64 (k : Int))] ∧ Ext w6 w_ ∧ (k ≤ T.subs.length ∧ True)) (fun k => T.subs.length - k) 0 ⟨rfl, (Ext.refl _), ⟨Nat.zero_le _, trivial⟩⟩ ?_
    rintro k r_ w10 ⟨rfl, hE8, hI9⟩
    have hzhE8 := hE8.size
    obtain ⟨hk, hI9⟩ := hI9
    refine WC.seqk ?_
    refine WC.region ?_
    cases hc11 : decide (((k : Int) : Int) < T.subs.length) with
    | false =>
      refine WL.lss rfl rfl rfl rfl hc11 ?_
      have hp11 := of_decide_eq_false hc11
      refine WL.done' ?_ (fun _ _ h => h)
      refine WC.seqk ?_
      refine WC.cond_f rfl ?_
      refine WC.exit (fun a_ ha => ?_)
      refine exit_then ?_
      refine exit_then ?_
      refine exit_here ?_
      refine WC.at ?_ ha
      refine WC.seqk ?_
      refine WC.seqk ?_
      refine WC.region ?_
      refine WL.fieldAddr rfl rfl Ty.fld29_0 rfl ?_
      refine WL.load_fld rfl rfl Ty.flat5 rfl (hR4.ext hE8) rfl ?_
      cases hc12 : ((T.kind : Int) == 5) with
      | false =>
        refine WL.eql rfl rfl rfl rfl hc12 ?_
        have hp12 := beq_eq_false_iff_ne.1 hc12
        refine WL.done' ?_ (fun _ _ h => h)
        refine WC.cond_f rfl ?_
        refine WC.skip'' ?_ (fun _ _ h => h)
        refine WC.seqk ?_
        refine WC.region ?_
        refine WL.move rfl rfl rfl ?_
        refine WL.min2 (v := minI (0 + Nd.posnL (T.subs.take k)) 10001) rfl rfl rfl rfl rfl ?_
        refine WL.assign rfl rfl rfl ?_
        refine WL.done' ?_ (fun _ _ h => h)
        refine WC.ret (fun a_ ha => ?_)
        exact bodyPost_tmp rfl ha rfl ⟨(by congr 2; rw [Nd.posn_eq]; have hkk : k = T.subs.length := (by omega); subst hkk; simp only [List.take_length, Nd.tms, hc7, hc12, cond_false]), (hE5.trans hE8)⟩
      | true =>
        refine WL.eql rfl rfl rfl rfl hc12 ?_
        have hp12 := beq_iff_eq.1 hc12
        refine WL.done' ?_ (fun _ _ h => h)
        refine WC.cond_t rfl ?_
        refine WC.seqk ?_
        refine WC.region ?_
        refine WL.fieldAddr rfl rfl Ty.fld29_2 rfl ?_
        refine WL.load_fld rfl rfl Ty.flat3 rfl (hR4.ext hE8) rfl ?_
        refine WL.max2 (v := maxI T.least 0) rfl rfl rfl rfl rfl ?_
        refine WL.assign rfl rfl rfl ?_
        refine WL.done' ?_ (fun _ _ h => h)
        refine WC.seqk ?_
        refine WC.region ?_
        refine WL.move rfl rfl rfl ?_
        refine WL.fieldAddr rfl rfl Ty.fld29_3 rfl ?_
        refine WL.load_fld rfl rfl Ty.flat3 rfl (hR4.ext hE8) rfl ?_
        refine WL.max2 (v := maxI (maxI T.least 0) T.most) rfl rfl rfl rfl rfl ?_
        refine WL.assign rfl rfl rfl ?_
        refine WL.done' ?_ (fun _ _ h => h)
        refine WC.seqk ?_
        refine WC.seqk ?_
        refine WC.region ?_
        refine WL.fieldAddr rfl rfl Ty.fld29_3 rfl ?_
        refine WL.load_fld rfl rfl Ty.flat3 rfl (hR4.ext hE8) rfl ?_
        cases hc63 : ((T.most : Int) == (-1)) with
        | false =>
          refine WL.eql rfl rfl rfl rfl hc63 ?_
          have hp63 := beq_eq_false_iff_ne.1 hc63
          refine WL.done' ?_ (fun _ _ h => h)
          refine WC.cond_f rfl ?_
          refine WC.skip'' ?_ (fun _ _ h => h)
          refine WC.region ?_
          refine WL.move rfl rfl rfl ?_
          refine WL.move rfl rfl rfl ?_
          refine WL.min2 (v := minI (maxI (maxI T.least 0) T.most) 10001) rfl rfl rfl rfl rfl ?_
          refine WL.mul (v := (0 + Nd.posnL (T.subs.take k)) * (minI (maxI (maxI T.least 0) T.most) 10001)) rfl rfl rfl rfl (by have hb1 := Nd.posnL_bd (T.subs.take k); rw [List.length_take] at hb1; have hb3 := mul_fits (x := 0 + Nd.posnL (T.subs.take k)) (y := minI (maxI (maxI T.least 0) T.most) 10001) (by omega) (by omega) (minmax_bd _ _).1 (minmax_bd _ _).2; exact hb3) ?_
          refine WL.assign rfl rfl rfl ?_
          refine WL.done' ?_ (fun _ _ h => h)
          refine WC.seqk ?_
          refine WC.region ?_
          refine WL.move rfl rfl rfl ?_
          refine WL.min2 (v := minI ((0 + Nd.posnL (T.subs.take k)) * (minI (maxI (maxI T.least 0) T.most) 10001)) 10001) rfl rfl rfl rfl rfl ?_
          refine WL.assign rfl rfl rfl ?_
          refine WL.done' ?_ (fun _ _ h => h)
          refine WC.ret (fun a_ ha => ?_)
          exact bodyPost_tmp rfl ha rfl ⟨(by congr 2; rw [Nd.posn_eq]; have hkk : k = T.subs.length := (by omega); subst hkk; simp only [List.take_length, Nd.tms, hc7, hc12, hc63, cond_true, cond_false]), (hE5.trans hE8)⟩
        | true =>
          refine WL.eql rfl rfl rfl rfl hc63 ?_
          have hp63 := beq_iff_eq.1 hc63
          refine WL.done' ?_ (fun _ _ h => h)
          refine WC.cond_t rfl ?_
          refine WC.region ?_
          refine WL.move rfl rfl rfl ?_
          refine WL.max2 (v := maxI (maxI T.least 0) 1) rfl rfl rfl rfl rfl ?_
          refine WL.assign rfl rfl rfl ?_
          refine WL.done' ?_ (fun _ _ h => h)
          refine WC.region ?_
          refine WL.move rfl rfl rfl ?_
          refine WL.move rfl rfl rfl ?_
          refine WL.min2 (v := minI (maxI (maxI T.least 0) 1) 10001) rfl rfl rfl rfl rfl ?_
          refine WL.mul (v := (0 + Nd.posnL (T.subs.take k)) * (minI (maxI (maxI T.least 0) 1) 10001)) rfl rfl rfl rfl (by have hb1 := Nd.posnL_bd (T.subs.take k); rw [List.length_take] at hb1; have hb3 := mul_fits (x := 0 + Nd.posnL (T.subs.take k)) (y := minI (maxI (maxI T.least 0) 1) 10001) (by omega) (by omega) (minmax_bd _ _).1 (minmax_bd _ _).2; exact hb3) ?_
          refine WL.assign rfl rfl rfl ?_
          refine WL.done' ?_ (fun _ _ h => h)
          refine WC.seqk ?_
          refine WC.region ?_
          refine WL.move rfl rfl rfl ?_
          refine WL.min2 (v := minI ((0 + Nd.posnL (T.subs.take k)) * (minI (maxI (maxI T.least 0) 1) 10001)) 10001) rfl rfl rfl rfl rfl ?_
          refine WL.assign rfl rfl rfl ?_
          refine WL.done' ?_ (fun _ _ h => h)
          refine WC.ret (fun a_ ha => ?_)
          exact bodyPost_tmp rfl ha rfl ⟨(by congr 2; rw [Nd.posn_eq]; have hkk : k = T.subs.length := (by omega); subst hkk; simp only [List.take_length, Nd.tms, hc7, hc12, hc63, cond_true, cond_false]), (hE5.trans hE8)⟩
    | true =>
      refine WL.lss rfl rfl rfl rfl hc11 ?_
      have hp11 := of_decide_eq_true hc11
      refine WL.done' ?_ (fun _ _ h => h)
      refine WC.seqk ?_
      refine WC.cond_t rfl ?_
      refine WC.skip'' ?_ (fun _ _ h => h)
      refine WC.seqk ?_
      refine WC.block ?_
      refine WC.seqk ?_
      refine WC.region ?_
      have h62 := ((hts.ext hE5).ext hE8)
      obtain ⟨t63, ht63⟩ : ∃ t, T.subs[k]? = some t := ⟨_, List.getElem?_eq_getElem (by omega)⟩
      obtain ⟨eb63, eo63, el63, hea63, hD63, her63, hn63⟩ := h62.at ht63
      obtain ⟨sl63, rfl, hts63⟩ := hn63.opn
      obtain ⟨a63, cap63, rfl, hlen63, -⟩ := hts63.get
      subst hea63
      refine WL.indexAddr (i := k) rfl rfl Ty.slice27 rfl rfl rfl (by omega) ?_
      refine WL.load_agg (l := tcells t63 (.slice a63 t63.subs.length cap63)) rfl rfl Ty.agg29 rfl her63 ?_
      refine WL.alloc rfl rfl Ty.zero29 rfl (fun b64 w69 hb65 hE68 hs66 hR67 => ?_)
      refine WL.store_box rfl rfl rfl hR67 Ty.agg29 rfl rfl (fun w72 hB71 hR70 => ?_)
      have hzhB71 := hB71.size
      refine WL.done' ?_ (fun _ _ h => h)
      refine WC.region ?_
      refine WL.move rfl rfl rfl ?_
      refine WL.load_box rfl rfl rfl hR70 Ty.agg29 ?_
      have h73 := ((hn63.ext hE68).but hB71 (by intro h1; first | omega | ((try dsimp only at h1); (repeat' first | (guard_hyp h1 : _ ∨ _; refine Or.elim h1 (fun h1 => ?_) (fun h1 => ?_)) | (guard_hyp h1 : _ ∧ _; have hx := h1.2; replace h1 := h1.1)) <;> first | contradiction | omega)))
      refine WL.call rfl rfl rfl Ty.ent39 (ih t63 (List.mem_of_getElem? ht63) _ _ _ h73 (by have := Nd.size_le_sizeL (List.mem_of_getElem? ht63); have := Nd.size_subs T; omega)) ?_
      rintro _ w75 ⟨rfl, hE74⟩
      have hzhE74 := hE74.size
      refine ⟨_, rfl, ?_⟩
      refine WL.add (v := 0 + Nd.posnL (T.subs.take (k + 1))) rfl rfl rfl rfl (by have hb1 := Nd.posnL_bd (T.subs.take k); have hb2 := Nd.posn_bd t63; rw [List.length_take] at hb1; rw [IntWalk.i64_in _ (by omega), Nd.posnL_succ ht63, Int.add_assoc]) ?_
      refine WL.assign rfl rfl rfl ?_
      refine WL.done' ?_ (fun _ _ h => h)
      refine WC.region ?_
      refine WL.add (v := (k : Int) + 1) rfl rfl rfl rfl (IntWalk.i64_in _ (by omega)) ?_
      refine WL.move rfl rfl rfl ?_
      refine WL.nil (fun a_ ha => ?_)
      exact ⟨k + 1, _, ha.weaken (subReg_cons rfl (subReg_cons rfl (subReg_cons rfl (subReg_cons rfl (subReg_cons rfl (subReg_nil _)))))), ⟨rfl, ((hB71.onto (hE8.trans hE68) (by omega)).trans hE74), ⟨by omega, trivial⟩⟩, by first | omega | (dsimp only; omega)⟩
  | true =>
    refine WL.eql rfl rfl rfl rfl hc7 ?_
    have hp7 := beq_iff_eq.1 hc7
    refine WL.done' ?_ (fun _ _ h => h)
    refine WC.cond_t rfl ?_
    refine WC.region ?_
    refine WL.assign rfl rfl rfl ?_
    refine WL.done' ?_ (fun _ _ h => h)
    refine WC.seqk ?_
    refine WC.seqk ?_
    refine WC.region ?_
    refine WL.fieldAddr rfl rfl Ty.fld29_4 rfl ?_
    refine WL.load_fld rfl rfl Ty.flat27 rfl hR4 rfl ?_
    refine WL.len rfl rfl Try.underlying27 rfl ?_
    refine WL.move rfl rfl rfl ?_
    refine WL.done' ?_ (fun _ _ h => h)
    refine WC.block ?_
    refine WC.weaken (r' := [(1, .pointer (some ⟨b1, 0, none⟩)), (12, .slice a T.subs.length cap), (13, .int .i64 T.subs.length), (3, .int .i64 1), (14, .int .i64 0)]) (subReg_cons rfl (subReg_cons rfl (subReg_cons rfl (subReg_cons rfl (subReg_cons rfl (subReg_nil _)))))) ?_
    refine WC.loop (σ := Nat) (fun k r_ w_ => r_ = [(1, .pointer (some ⟨b1, 0, none⟩)), (12, .slice a T.subs.length cap), (13, .int .i64 T.subs.length), (3, .int .i64 (1 + Nd.posnL (T.subs.take k))), (14, .int .i64 (k : Int))] ∧ Ext w6 w_ ∧ (k ≤ T.subs.length ∧ True)) (fun k => T.subs.length - k) 0 ⟨rfl, (Ext.refl _), ⟨Nat.zero_le _, trivial⟩⟩ ?_
    rintro k r_ w60 ⟨rfl, hE58, hI59⟩
    have hzhE58 := hE58.size
    obtain ⟨hk, hI59⟩ := hI59
    refine WC.seqk ?_
    refine WC.region ?_
    cases hc61 : decide (((k : Int) : Int) < T.subs.length) with
    | false =>
      refine WL.lss rfl rfl rfl rfl hc61 ?_
      have hp61 := of_decide_eq_false hc61
      refine WL.done' ?_ (fun _ _ h => h)
      refine WC.seqk ?_
      refine WC.cond_f rfl ?_
      refine WC.exit (fun a_ ha => ?_)
      refine exit_then ?_
      refine exit_then ?_
      refine exit_here ?_
      refine WC.at ?_ ha
      refine WC.seqk ?_
      refine WC.seqk ?_
      refine WC.region ?_
      refine WL.fieldAddr rfl rfl Ty.fld29_0 rfl ?_
      refine WL.load_fld rfl rfl Ty.flat5 rfl (hR4.ext hE58) rfl ?_
      have hc62 : ((T.kind : Int) == 5) = false := beq_eq_false_iff_ne.2 (by omega)
      refine WL.eql rfl rfl rfl rfl hc62 ?_
      refine WL.done' ?_ (fun _ _ h => h)
      refine WC.cond_f rfl ?_
      refine WC.skip'' ?_ (fun _ _ h => h)
      refine WC.seqk ?_
      refine WC.region ?_
      refine WL.move rfl rfl rfl ?_
      refine WL.min2 (v := minI (1 + Nd.posnL (T.subs.take k)) 10001) rfl rfl rfl rfl rfl ?_
      refine WL.assign rfl rfl rfl ?_
      refine WL.done' ?_ (fun _ _ h => h)
      refine WC.ret (fun a_ ha => ?_)
      exact bodyPost_tmp rfl ha rfl ⟨(by congr 2; rw [Nd.posn_eq]; have hkk : k = T.subs.length := (by omega); subst hkk; simp only [List.take_length, Nd.tms, hc7, hc62, cond_true, cond_false]), (hE5.trans hE58)⟩
    | true =>
      refine WL.lss rfl rfl rfl rfl hc61 ?_
      have hp61 := of_decide_eq_true hc61
      refine WL.done' ?_ (fun _ _ h => h)
      refine WC.seqk ?_
      refine WC.cond_t rfl ?_
      refine WC.skip'' ?_ (fun _ _ h => h)
      refine WC.seqk ?_
      refine WC.block ?_
      refine WC.seqk ?_
      refine WC.region ?_
      have h112 := ((hts.ext hE5).ext hE58)
      obtain ⟨t113, ht113⟩ : ∃ t, T.subs[k]? = some t := ⟨_, List.getElem?_eq_getElem (by omega)⟩
      obtain ⟨eb113, eo113, el113, hea113, hD113, her113, hn113⟩ := h112.at ht113
      obtain ⟨sl113, rfl, hts113⟩ := hn113.opn
      obtain ⟨a113, cap113, rfl, hlen113, -⟩ := hts113.get
      subst hea113
      refine WL.indexAddr (i := k) rfl rfl Ty.slice27 rfl rfl rfl (by omega) ?_
      refine WL.load_agg (l := tcells t113 (.slice a113 t113.subs.length cap113)) rfl rfl Ty.agg29 rfl her113 ?_
      refine WL.alloc rfl rfl Ty.zero29 rfl (fun b114 w119 hb115 hE118 hs116 hR117 => ?_)
      refine WL.store_box rfl rfl rfl hR117 Ty.agg29 rfl rfl (fun w122 hB121 hR120 => ?_)
      have hzhB121 := hB121.size
      refine WL.done' ?_ (fun _ _ h => h)
      refine WC.region ?_
      refine WL.move rfl rfl rfl ?_
      refine WL.load_box rfl rfl rfl hR120 Ty.agg29 ?_
      have h123 := ((hn113.ext hE118).but hB121 (by intro h1; first | omega | ((try dsimp only at h1); (repeat' first | (guard_hyp h1 : _ ∨ _; refine Or.elim h1 (fun h1 => ?_) (fun h1 => ?_)) | (guard_hyp h1 : _ ∧ _; have hx := h1.2; replace h1 := h1.1)) <;> first | contradiction | omega)))
      refine WL.call rfl rfl rfl Ty.ent39 (ih t113 (List.mem_of_getElem? ht113) _ _ _ h123 (by have := Nd.size_le_sizeL (List.mem_of_getElem? ht113); have := Nd.size_subs T; omega)) ?_
      rintro _ w125 ⟨rfl, hE124⟩
      have hzhE124 := hE124.size
      refine ⟨_, rfl, ?_⟩
      refine WL.add (v := 1 + Nd.posnL (T.subs.take (k + 1))) rfl rfl rfl rfl (by have hb1 := Nd.posnL_bd (T.subs.take k); have hb2 := Nd.posn_bd t113; rw [List.length_take] at hb1; rw [IntWalk.i64_in _ (by omega), Nd.posnL_succ ht113, Int.add_assoc]) ?_
      refine WL.assign rfl rfl rfl ?_
      refine WL.done' ?_ (fun _ _ h => h)
      refine WC.region ?_
      refine WL.add (v := (k : Int) + 1) rfl rfl rfl rfl (IntWalk.i64_in _ (by omega)) ?_
      refine WL.move rfl rfl rfl ?_
      refine WL.nil (fun a_ ha => ?_)
      exact ⟨k + 1, _, ha.weaken (subReg_cons rfl (subReg_cons rfl (subReg_cons rfl (subReg_cons rfl (subReg_cons rfl (subReg_nil _)))))), ⟨rfl, ((hB121.onto (hE58.trans hE118) (by omega)).trans hE124), ⟨by omega, trivial⟩⟩, by first | omega | (dsimp only; omega)⟩

end Go.Proofs.Ytaggidjijekpbaa
